/- Chapter 9: the program's order of the gears. -/
import Derived.Test.YtjnkckpebfafjaaGearC
import Derived.Test.YtjnkckpebfafjaaSlices
namespace Go.Proofs.Ytjnkckpebfafjaa
open Go.RowKit
set_option linter.unusedVariables false
set_option linter.unusedSimpArgs false

theorem OwnI.pair {w : World} {B : Nat} (hB : B ≤ w.heap.size) (f r : Nat) : OwnI (w.alloc (.cells #[.int .i64 f, .int .i64 r] 2)) B (.slice (some ⟨w.heap.size, 0, none⟩) 2 2) [(f : Int), (r : Int)] :=
  World.ownsRow_lit w #[.int .i64 f, .int .i64 r] 2 hB (by unfold maxLen; omega) rfl
theorem OwnV.far {w : World} {B k : Nat} {v : Value} {vs : List Value} (h : OwnV w B v vs) (hk : k < B) : k ∉ v.ownBlock.toList := fun hm => by
  have := (World.ownsRow.lt (w := w) h) k (Option.mem_toList.1 hm); omega
def gq (e : Nat × Nat) : Nat × List Int := (2, [(e.1 : Int), (e.2 : Int)])
/-- Gears in memory of one's own. -/
def GS (w : World) (B : Nat) (v : Value) (P : List (Nat × Nat)) : Prop := ∃ L : List (Nat × Nat × List Int), OwnR w B v L ∧ L.map (·.2) = P.map gq
theorem GS.kept0 {w w' : World} {B : Nat} {v : Value} {P : List (Nat × Nat)} (h : GS w B v P) (u : Upd [] w w') : GS w' B v P := by
  obtain ⟨L, h1, h2⟩ := h; exact ⟨L, h1.kept0 u, h2⟩
theorem GS.nil (w : World) (B : Nat) : GS w B (.slice none 0 0) [] := ⟨[], ⟨OwnV.nil w B, Inn.nil w B⟩, rfl⟩
theorem gq_len {L : List (Nat × Nat × List Int)} {P : List (Nat × Nat)} (h : L.map (·.2) = P.map gq) : L.length = P.length := by have := congrArg List.length h; simpa using this
theorem gq_at {L : List (Nat × Nat × List Int)} {P : List (Nat × Nat)} (h : L.map (·.2) = P.map gq) {j : Nat} {e : Nat × Nat} (hj : P[j]? = some e) : ∃ g, L[j]? = some (g, gq e) := by
  have h1 : (L.map (·.2))[j]? = (P.map gq)[j]? := by rw [h]
  rw [List.getElem?_map, List.getElem?_map, hj] at h1
  cases hx : L[j]? with
  | none => rw [hx] at h1; simp at h1
  | some x =>
    rw [hx] at h1
    simp only [Option.map_some, Option.some.injEq] at h1
    exact ⟨x.1, by rw [← h1]⟩
theorem GS.get {w : World} {B : Nat} {v : Value} {P : List (Nat × Nat)} (h : GS w B v P) {j : Nat} {e : Nat × Nat} (hj : P[j]? = some e) :
    ∃ ob oc g, v = .slice (some ⟨ob, 0, none⟩) P.length oc ∧ w.cell? ⟨ob, j, none⟩ = some (.slice (some ⟨g, 0, none⟩) 2 2) ∧ Hid (IntsAt w (some ⟨g, 0, none⟩) [(e.1 : Int), (e.2 : Int)]) := by
  obtain ⟨L, h1, h2⟩ := h
  obtain ⟨g, hg⟩ := gq_at h2 hj
  have hl := gq_len h2
  have hjl := get_lt hj
  obtain ⟨ob, oc, rfl, -, -⟩ := h1.1.row (by simp; omega)
  refine ⟨ob, oc, g, by simp [hl], ?_, (h1.2.rows _ (mem_of_get hg)).ints1⟩
  exact h1.1.cell (by rw [List.getElem?_map, hg]; rfl)
theorem GS.mono {w : World} {B B' : Nat} {v : Value} {P : List (Nat × Nat)} (h : GS w B v P) (hB : B' ≤ B) : GS w B' v P := by
  obtain ⟨L, h1, h2⟩ := h; exact ⟨L, h1.mono hB, h2⟩
theorem GS.form {w : World} {B : Nat} {v : Value} {P : List (Nat × Nat)} (h : GS w B v P) : ∃ a c, v = .slice a P.length c := by
  obtain ⟨L, h1, h2⟩ := h
  obtain ⟨a, c, e, -, -⟩ := h1.1.form
  exact ⟨a, c, by rw [e]; simp [gq_len h2]⟩
theorem splice_set {α : Type} (vs : List α) (z y : α) (k : Nat) (hk : k ≤ vs.length) : (splice (vs ++ [z]) (k + 1) (((vs ++ [z]).drop k).take (vs.length - k))).set k y = vs.take k ++ y :: vs.drop k := by
  have e1 : ((vs ++ [z]).drop k).take (vs.length - k) = vs.drop k := by
    rw [List.drop_append_of_le_length hk, List.take_append_of_le_length (by simp), List.take_of_length_le (by simp)]
  rw [e1, splice]
  have e2 : (vs ++ [z]).drop (k + 1 + (vs.drop k).length) = [] := List.drop_eq_nil_of_le (by simp; omega)
  rw [e2, List.append_nil]
  have hkl : k < (vs ++ [z]).length := by simp; omega
  have e3 : (vs ++ [z]).take (k + 1) = vs.take k ++ [(vs ++ [z])[k]] := by
    rw [List.take_add_one, List.getElem?_eq_getElem hkl, List.take_append_of_le_length hk]; rfl
  have e4 : (vs.take k).length = k := by simp; omega
  rw [e3, List.append_assoc, List.set_append_right _ _ (by omega), e4, Nat.sub_self]
  simp
theorem GS.fin {w : World} {B : Nat} {v : Value} {L : List (Nat × Nat × List Int)} {P : List (Nat × Nat)} {e : Nat × Nat} {g k : Nat} (hk : k ≤ L.length)
    (h : OwnV w B v ((splice (L.map valR ++ [Value.slice none 0 0]) (k + 1) (((L.map valR ++ [Value.slice none 0 0]).drop k).take (L.length - k))).set k (Value.slice (some ⟨g, 0, none⟩) 2 2)))
    (hi : Inn w B (L.take k ++ (g, gq e) :: L.drop k)) (hl : L.map (·.2) = P.map gq) : GS w B v (P.take k ++ e :: P.drop k) := by
  refine ⟨_, ⟨?_, hi⟩, ?_⟩
  · have := splice_set (L.map valR) (Value.slice none 0 0) (Value.slice (some ⟨g, 0, none⟩) 2 2) k (by simpa using hk)
    rw [show (L.map valR).length = L.length by simp] at this
    rw [this] at h
    rw [show (L.take k ++ (g, gq e) :: L.drop k).map valR = (L.map valR).take k ++ Value.slice (some ⟨g, 0, none⟩) 2 2 :: (L.map valR).drop k by simp [List.map_take, List.map_drop, valR, gq]]
    exact h
  · simp [List.map_take, List.map_drop, hl]
section
variable {ops : Array Oper} {rest : List Oper} {o : Oper} {a : Act} {Q : Exit → Act → World → Prop}
theorem OwnV.spliced {w w' : World} {B g n c off : Nat} {ws cs : List Value} {cur : Array Value} (hg : w.heap[g]? = some (.cells cur 24 (0, 0))) (hB : B ≤ g) (hn : n = ws.length) (hc : ws.length ≤ c) (hm : c ≤ maxLen) (hs : cur.size = c * 1) (ht : cur.toList.take (ws.length * 1) = ws)
    (hfit : off + cs.length ≤ ws.length) (hg' : w'.heap[g]? = some (.cells (splice cur.toList off cs).toArray 24 (0, 0))) : OwnV w' B (.slice (some ⟨g, 0, none⟩) n c) (splice ws off cs) := by
  have hl : (splice ws off cs).length = ws.length := length_splice _ _ _ hfit
  have hsl : cur.toList.length = c := by rw [Array.length_toList, hs, Nat.mul_one]
  have hcl : ws.length ≤ cur.toList.length := by rw [hsl]; exact hc
  refine ⟨by simp, .inr ⟨g, c, _, by rw [hl, hn], hB, hg', by rw [hl]; exact hc, hm, ?_, ?_⟩⟩
  · rw [List.size_toArray, length_splice _ _ _ (by omega), Array.length_toList, hs]
  · rw [hl]
    rw [Nat.mul_one] at ht ⊢
    show (splice cur.toList off cs).take ws.length = splice ws off cs
    obtain ⟨l, hl2⟩ : ∃ l, cur.toList = l := ⟨_, rfl⟩
    rw [hl2] at ht hcl ⊢
    obtain ⟨t, ht2⟩ : ∃ t, l.drop ws.length = t := ⟨_, rfl⟩
    have e1 : l = ws ++ t := by rw [← ht2]; conv => lhs; rw [← List.take_append_drop ws.length l, ht]
    clear ht ht2 hl2 hcl
    subst e1
    have q1 : (ws ++ t).take off = ws.take off := List.take_append_of_le_length (by omega)
    have q2 : (ws ++ t).drop (off + cs.length) = ws.drop (off + cs.length) ++ t := List.drop_append_of_le_length hfit
    have q3 : splice (ws ++ t) off cs = splice ws off cs ++ t := by
      unfold splice; rw [q1, q2]; simp
    rw [q3, List.take_append_of_le_length (by rw [hl]; exact Nat.le_refl _), ← hl, List.take_length]
/-- 'copy(out[k+1:], out[k:])'. -/
theorem wpList_copyV {w : World} (hgd : o.guard = none) (d s : Operand) (ho : o.op = .call { callee := .builtin .copy, args := #[d, s], argTypes := #[35, 35] })
    (B g n c k : Nat) (ws : List Value) (h1 : ∀ u ∈ ws, u.oneCell' = true) (hown : OwnV w B (.slice (some ⟨g, 0, none⟩) n c) ws) (hk : k < n) (dp sp : Option Addr) (dl dc sl sc : Nat) (hd : a.eval d = .slice dp dl dc) (hs : a.eval s = .slice sp sl sc)
    (hdl : dl = n - (k + 1)) (hsl : sl = n - k) (hdp : 0 < dl → dp = some ⟨g, k + 1, none⟩) (hsp : sp = some ⟨g, k, none⟩)
    (h : ∀ w' t, OwnV w' B (.slice (some ⟨g, 0, none⟩) n c) (splice ws (k + 1) ((ws.drop k).take (n - (k + 1)))) → Upd [g] w w' → wpList Try.prog ops Q rest (a.put o.dst t) w') : wpList Try.prog ops Q (o :: rest) a w := by
  have hn := hown.len
  rcases hown.2 with ⟨e, _⟩ | ⟨g2, c2, cur, e, hb, hg, hc, hm, hsz, htk⟩
  · simp at e
  simp only [Value.slice.injEq, Option.some.injEq, Addr.mk.injEq] at e
  obtain ⟨⟨rfl, -⟩, -, rfl⟩ := e
  have hcl : ((ws.drop k).take (n - (k + 1))).length = n - (k + 1) := by simp; omega
  have hsp' : (Try.prog.info? 24).map (·.size) = some 1 := by kernel_rfl
  by_cases h0 : dl = 0
  · refine wpList_copy_nothing hgd d s _ _ ho 24 Try.underlying35 hsp' dp sp dl dc sl sc hd hs (by rw [h0]; exact Nat.min_zero _) ?_
    refine h _ _ ?_ ((Upd.refl w).mono (by simp))
    have e0 : n - (k + 1) = 0 := by omega
    rw [e0, List.take_zero]
    have : splice ws (k + 1) [] = ws := by simp [splice]
    rw [this]; exact hown
  · obtain rfl := hdp (by omega)
    obtain rfl := hsp
    refine wpList_copy_own hgd d s _ _ ho 24 Try.underlying35 hsp' g (k + 1) dl dc ⟨g, k, none⟩ sl sc hd hs cur _ hg ((ws.drop k).take (n - (k + 1))) (by rw [hcl, hdl, hsl]; exact (Nat.min_eq_right (by omega)).symm) ?_ (by rw [hcl, hsz]; omega) (fun u hu => h1 u (List.mem_of_mem_drop (List.mem_of_mem_take hu))) ?_
    · intro j u hu
      rw [List.getElem?_take] at hu
      split at hu
      · rw [List.getElem?_drop] at hu
        have := hown.cell hu
        rw [Addr.add_lit]; exact this
      · simp at hu
    · refine h _ _ (OwnV.spliced hg hb hn hc hm hsz htk (by rw [hcl]; omega) (setRow_heap w g _ _ _ _ hg)) ?_
      exact ⟨rfl, rfl, rfl, by simp [World.setRow], fun j _ hj => setRow_other w g j _ (by simpa using hj)⟩
end
/-- Gears in new memory are returned. -/
def NewG (w : World) (P : List (Nat × Nat)) (e : Ending) (w' : World) : Prop := ∃ v, e = .returned v ∧ GS w' w.heap.size v P ∧ Upd [] w w'
set_option maxHeartbeats 6400000 in
theorem gearOrder_c (a1 a2 : Option Addr) (c1 c2 : Nat) (fs rs : List Int) (n : Int) (w : World) (h1 : IntsAt w a1 fs) (h2 : IntsAt w a2 rs) (hl1 : fs.length ≤ 1048576) (hl2 : rs.length ≤ 1048576) (ht : TeethOk fs) (hu : TeethOk rs) (hf3 : fs.length ≤ 3) (hr12 : rs.length ≤ 12) :
    Calls Try.prog 42 #[.agg #[.slice a1 fs.length c1, .slice a2 rs.length c2, .int .i64 n]] w (NewG w (orderF fs rs)) := by
  have H : Hid (∀ w', Upd [] w w' → IntsAt w' a1 fs ∧ IntsAt w' a2 rs) := fun w' u => ⟨h1.kept0 u, h2.kept0 u⟩
  clear h1 h2
  have B0 := Lib.hid (Box.new w (.slice a1 fs.length c1) (.slice a2 rs.length c2) (.int .i64 n) 26)
  have U0 := Lib.hid ((Upd.refl w).alloc (.cells #[.slice a1 fs.length c1, .slice a2 rs.length c2, .int .i64 n] 26))
  obtain ⟨hb0, hb1, hb2⟩ := B0.out.cells
  have HG : Hid (GS (w.alloc (.cells #[.slice a1 fs.length c1, .slice a2 rs.length c2, .int .i64 n] 26)) (w.alloc (.cells #[.slice a1 fs.length c1, .slice a2 rs.length c2, .int .i64 n] 26)).heap.size (.slice none 0 0) (ordG fs rs rs.length 0)) := GS.nil _ _
  go_enter Try.func42, Try.ntmps42
  go_wp2_with fail
  clear hb0 hb1 hb2
  have hw1s : w.heap.size < (w.alloc (.cells #[.slice a1 fs.length c1, .slice a2 rs.length c2, .int .i64 n] 26)).heap.size := by simp
  generalize w.alloc (.cells #[.slice a1 fs.length c1, .slice a2 rs.length c2, .int .i64 n] 26) = w1 at HG B0 U0 hw1s ⊢
  have H1 : Hid (∀ w', Upd [] w1 w' → IntsAt w' a1 fs ∧ IntsAt w' a2 rs) := fun w' u => H.out w' (U0.out.then0 u)
  have UW := U0
  replace U0 : Hid (Upd [] w1 w1) := Upd.refl w1
  clear H
  go_loopw [3, 11] (fun v i wr => ∃ f : Nat, f ≤ fs.length ∧ i = .int .i64 f ∧ Hid (GS wr w1.heap.size v (ordG fs rs rs.length f)) ∧ Hid (Box wr w.heap.size (.slice a1 fs.length c1) (.slice a2 rs.length c2) (.int .i64 n) 26) ∧ Hid (Upd [] w1 wr)) (fun _ i _ => fs.length - (intOf i).toNat)
  case atStart => exact ⟨0, by omega, rfl, HG, B0, U0⟩
  case round =>
    clear HG B0 U0
    obtain ⟨f, hf, rfl, HG, B0, U1⟩ := hrel
    by_cases hfl : f < fs.length
    · obtain ⟨hb0, hb1, hb2⟩ := B0.out.cells
      go_wp2_with fail
      clear hb0 hb1 hb2
      go_loopw [3, 17] (fun v i wr => ∃ r : Nat, r ≤ rs.length ∧ i = .int .i64 r ∧ Hid (GS wr w1.heap.size v (rowG fs rs (ordG fs rs rs.length f) f r)) ∧ Hid (Box wr w.heap.size (.slice a1 fs.length c1) (.slice a2 rs.length c2) (.int .i64 n) 26) ∧ Hid (Upd [] w1 wr)) (fun _ i _ => rs.length - (intOf i).toNat)
      case atStart => exact ⟨0, by omega, rfl, HG, B0, U1⟩
      case round =>
        clear HG B0 U1
        obtain ⟨r, hr, rfl, HG, B0, U1⟩ := hrel
        by_cases hrl : r < rs.length
        · have HQ : Hid (SrtG fs rs (rowG fs rs (ordG fs rs rs.length f) f r) ∧ InG fs rs (rowG fs rs (ordG fs rs rs.length f) f r)) := rowG_srt hu hfl hr (ordG_srt hu hf).2 (ordG_srt hu hf).1
          have HPl : Hid ((rowG fs rs (ordG fs rs rs.length f) f r).length ≤ 100) := by
            show _ ≤ _
            rw [rowG_length, ordG_length]
            have : f * rs.length ≤ 2 * 12 := Nat.mul_le_mul (by omega) hr12
            omega
          have HNx : Hid (insR fs rs (rowG fs rs (ordG fs rs rs.length f) f r) (f, r) = rowG fs rs (ordG fs rs rs.length f) f (r + 1)) := rfl
          generalize rowG fs rs (ordG fs rs rs.length f) f r = P at HQ HPl HNx HG
          have HSr := Lib.hid HQ.out.1
          have HIn := Lib.hid HQ.out.2
          clear HQ
          obtain ⟨L, hor, hL⟩ := HG.out
          have HLl := Lib.hid (gq_len hL)
          have HL := Lib.hid hL
          clear hL
          have HD0 : Hid (∀ x, x ∈ L → x.1 ≠ wr.heap.size) := fun x hx => by have := (hor.2.lt hx).2; omega
          have HS1 : Hid (w1.heap.size ≤ wr.heap.size) := U1.out.size
          have HP0 := Lib.hid (OwnI.pair HS1.out f r)
          have V0 := Lib.hid ((Upd.refl wr).alloc (.cells #[.int .i64 f, .int .i64 r] 2))
          have HV0 := Lib.hid (hor.1.kept0 V0.out)
          have HI0 := Lib.hid (hor.2.kept0 V0.out)
          clear hor
          have HG0 := Lib.hid (HG.out.kept0 V0.out)
          obtain ⟨p3, c3, rfl⟩ := HG.out.form
          clear HG
          have B3 := Lib.hid (B0.out.kept V0.out (by simp))
          have U3 := Lib.hid (U1.out.then0 V0.out)
          clear B0 U1
          go_wp2_with fail
          obtain ⟨g, hg⟩ : ∃ g, wr.heap.size = g := ⟨_, rfl⟩
          generalize wr.alloc (.cells #[.int .i64 f, .int .i64 r] 2) = w3 at HP0 HV0 HI0 HG0 B3 U3 V0 ⊢
          rw [hg] at HP0 HD0 ⊢
          clear V0 HS1 hg
          have HP := HP0
          have HV := HV0
          have HI := HI0
          have HD := HD0
          clear HP0 HV0 HI0 HD0
          go_loopw [7] (fun kv wr => ∃ k : Nat, k ≤ P.length ∧ kv = .int .i64 k ∧ Hid (∀ j e, k ≤ j → P[j]? = some e → 0 < cmpG fs rs e (f, r)) ∧ Hid (Box wr w.heap.size (.slice a1 fs.length c1) (.slice a2 rs.length c2) (.int .i64 n) 26) ∧ Hid (Upd [] w3 wr)) (fun kv _ => (intOf kv).toNat)
          case atStart => exact ⟨P.length, Nat.le_refl _, rfl, fun j e h1 h2 => by have := get_lt h2; omega, B3, Upd.refl w3⟩
          case round =>
            clear B3
            obtain ⟨k, hk, rfl, HK1, B4, V4⟩ := hrel
            obtain ⟨w4, ew4⟩ : ∃ x : World, x = wr := ⟨_, rfl⟩
            subst ew4
            have U4 := Lib.hid (U3.out.then0 V4.out)
            by_cases hk0 : k = 0
            · have hd : decide (0 < k) = false := by rw [hk0]; rfl
              have HK2 : Hid (∀ e, 0 < k → P[k - 1]? = some e → cmpG fs rs e (f, r) ≤ 0) := fun e h => absurd h (by omega)
              clear hk0
              go_wp2_with fail
              go_quiet (fail)
              have Bt := Lib.hid (B4.out.kept ((Upd.refl w4).drewN nq) (by simp))
              have Ut := Lib.hid (U4.out.drewN nq)
              have Vt := Lib.hid (V4.out.drewN nq)
              clear B4 U4 V4 hd
              generalize w4.drewN nq = w6 at Bt Ut Vt ⊢
              have HPI : Hid (P.take k ++ (f, r) :: P.drop k = insR fs rs P (f, r)) := insR_at_back hu hk hrl HIn.out HSr.out HK2.out (fun e he => HK1.out k e (Nat.le_refl _) he)
              have HI4 : Hid (Inn w6 w1.heap.size (L.take k ++ (g, gq (f, r)) :: L.drop k)) := (HI.out.kept0 Vt.out).ins (g, gq (f, r)) (HP.out.kept0 Vt.out) HD.out k
              have HV4 := Lib.hid (HV.out.kept0 Vt.out)
              have HkL : Hid (k ≤ L.length ∧ L.length = P.length) := ⟨by have := HLl.out; omega, HLl.out⟩
              have HLn : Hid ((L.map valR ++ [Value.slice none 0 0]).length = P.length + 1) := by show _ = _; simp [HLl.out]
              go_wp2_with (at_builtin; refine wpList_appV rfl _ _ rfl _ _ none 0 0 rfl rfl HV4.out Ut.out (by have := HkL.out.2; have := HPl.out; simp; omega) ?_; intro v' w7 z1 z2 z3; obtain ⟨g5, c5, ev, hg5, hlt5⟩ := z1.row (by simp); rw [HLn.out] at ev; subst ev; have hcap5 := z1.cap.1; rw [HLn.out] at hcap5; have Z1 := Lib.hid z1; have HI5 := Lib.hid (HI4.out.keptV HV4.out z2); have U7 := Lib.hid z3; have B7 := Lib.hid (Bt.out.kept z2 (HV4.out.far hw1s)); clear z1 z2 z3)
              by_cases hcc : c5 = k + 1
              · subst hcc
                have HOne : Hid (∀ u, u ∈ L.map valR ++ [Value.slice none 0 0] → u.oneCell' = true) := fun u hu => by
                  rcases List.mem_append.1 hu with h | h
                  · obtain ⟨x, -, rfl⟩ := List.mem_map.1 h; rfl
                  · rw [List.mem_singleton.1 h]; rfl
                have HCs : Hid ((splice (L.map valR ++ [Value.slice none 0 0]) (k + 1) (((L.map valR ++ [Value.slice none 0 0]).drop k).take (P.length + 1 - (k + 1)))).length = P.length + 1) := by
                  show _ = _
                  rw [length_splice _ _ _ (by rw [HLn.out]; simp; have := HLl.out; omega), HLn.out]
                have hw1 : IntKind.i64.wrap ((k : Int) + 1) = (k : Int) + 1 := IntWalk.i64_in _ (by have := HPl.out; omega)
                have i1 : (0 : Int) ≤ (k : Int) + 1 := by omega
                have i2 : (k : Int) + 1 ≤ (P.length : Int) + 1 := by omega
                have i3 : (k : Int) ≤ (P.length : Int) + 1 := by omega
                have i4 : ¬ (k + 1) = k := by omega
                go_wp2_with fail
                refine wp_region_still_tail 7 (by kernel_rfl) (by kernel_rfl) ?_
                simp only [List.take_succ_cons, List.take_zero, List.drop_succ_cons, List.drop_zero]
                repeat still_step
                refine wpStill_nil ?_
                clear hw1 i1 i2 i3 i4
                change wpList _ _ _ _ _ w7.drew
                have Z8 := Lib.hid (Z1.out.kept0 (Upd.refl w7).drew)
                have HI8 := Lib.hid (HI5.out.kept0 (Upd.refl w7).drew)
                have B8 := Lib.hid (B7.out.kept (Upd.refl w7).drew (by simp))
                have U8 := Lib.hid (U7.out.drew)
                clear Z1 HI5 B7 U7
                generalize w7.drew = w8 at Z8 HI8 B8 U8 ⊢
                refine wpList_copyV rfl _ _ rfl w1.heap.size g5 (P.length + 1) (k + 1) k _ HOne.out Z8.out (by omega) _ _ _ _ _ _ rfl rfl (by omega) (by omega) (fun h => absurd h (by omega)) rfl ?_
                intro w9 t y1 y2
                have Z9 := Lib.hid y1
                have HI9 := Lib.hid (HI8.out.keptV Z8.out y2)
                have B9 := Lib.hid (B8.out.kept y2 (by simp; omega))
                have U9 := Lib.hid (U8.out.after0 y2 (by simp; exact hg5))
                clear y1 y2
                have hcx := Z9.out.cell (k := k) (List.getElem?_eq_getElem (by rw [HCs.out]; omega))
                have hfx := Z9.out.free k
                go_wp2_with fail
                have Z10 := Lib.hid (Z9.out.set k (.slice (some ⟨g, 0, none⟩) 2 2) (by rw [HCs.out]; omega))
                have V10 : Upd [g5] w9 (w9.setCell ⟨g5, k, none⟩ (.slice (some ⟨g, 0, none⟩) 2 2)) := ((Upd.refl w9).mono (by simp)).setCell _ (.inl (by simp))
                have HI10 := Lib.hid (HI9.out.keptV Z9.out V10)
                have B10 := Lib.hid (B9.out.kept V10 (by simp; omega))
                have U10 := Lib.hid (U9.out.after0 V10 (by simp; exact hg5))
                have HGn : Hid (GS (w9.setCell ⟨g5, k, none⟩ (.slice (some ⟨g, 0, none⟩) 2 2)) w1.heap.size (.slice (some ⟨g5, 0, none⟩) (P.length + 1) (k + 1)) (rowG fs rs (ordG fs rs rs.length f) f (r + 1))) := by
                  show GS _ _ _ _
                  rw [← HNx.out, ← HPI.out]
                  refine GS.fin HkL.out.1 ?_ HI10.out HL.out
                  have := Z10.out
                  rw [show P.length + 1 - (k + 1) = L.length - k by have := HLl.out; omega] at this
                  exact this
                clear V10
                go_roundw
                case rel => exact ⟨r + 1, by omega, by go_num, HGn, B10, U10⟩
                case measure => simp [intOf]; omega
              · skip
                have HOne : Hid (∀ u, u ∈ L.map valR ++ [Value.slice none 0 0] → u.oneCell' = true) := fun u hu => by
                  rcases List.mem_append.1 hu with h | h
                  · obtain ⟨x, -, rfl⟩ := List.mem_map.1 h; rfl
                  · rw [List.mem_singleton.1 h]; rfl
                have HCs : Hid ((splice (L.map valR ++ [Value.slice none 0 0]) (k + 1) (((L.map valR ++ [Value.slice none 0 0]).drop k).take (P.length + 1 - (k + 1)))).length = P.length + 1) := by
                  show _ = _
                  rw [length_splice _ _ _ (by rw [HLn.out]; simp; have := HLl.out; omega), HLn.out]
                have hw1 : IntKind.i64.wrap ((k : Int) + 1) = (k : Int) + 1 := IntWalk.i64_in _ (by have := HPl.out; omega)
                have i1 : (0 : Int) ≤ (k : Int) + 1 := by omega
                have i2 : (k : Int) + 1 ≤ (P.length : Int) + 1 := by omega
                have i3 : (k : Int) ≤ (P.length : Int) + 1 := by omega
                have i4 : ¬ c5 = k := by omega
                go_wp2_with fail
                refine wp_region_still_tail 7 (by kernel_rfl) (by kernel_rfl) ?_
                simp only [List.take_succ_cons, List.take_zero, List.drop_succ_cons, List.drop_zero]
                repeat still_step
                refine wpStill_nil ?_
                clear hw1 i1 i2 i3 i4
                change wpList _ _ _ _ _ w7.drew
                have Z8 := Lib.hid (Z1.out.kept0 (Upd.refl w7).drew)
                have HI8 := Lib.hid (HI5.out.kept0 (Upd.refl w7).drew)
                have B8 := Lib.hid (B7.out.kept (Upd.refl w7).drew (by simp))
                have U8 := Lib.hid (U7.out.drew)
                clear Z1 HI5 B7 U7
                generalize w7.drew = w8 at Z8 HI8 B8 U8 ⊢
                refine wpList_copyV rfl _ _ rfl w1.heap.size g5 (P.length + 1) c5 k _ HOne.out Z8.out (by omega) _ _ _ _ _ _ rfl rfl (by omega) (by omega) (fun _ => rfl) rfl ?_
                intro w9 t y1 y2
                have Z9 := Lib.hid y1
                have HI9 := Lib.hid (HI8.out.keptV Z8.out y2)
                have B9 := Lib.hid (B8.out.kept y2 (by simp; omega))
                have U9 := Lib.hid (U8.out.after0 y2 (by simp; exact hg5))
                clear y1 y2
                have hcx := Z9.out.cell (k := k) (List.getElem?_eq_getElem (by rw [HCs.out]; omega))
                have hfx := Z9.out.free k
                go_wp2_with fail
                have Z10 := Lib.hid (Z9.out.set k (.slice (some ⟨g, 0, none⟩) 2 2) (by rw [HCs.out]; omega))
                have V10 : Upd [g5] w9 (w9.setCell ⟨g5, k, none⟩ (.slice (some ⟨g, 0, none⟩) 2 2)) := ((Upd.refl w9).mono (by simp)).setCell _ (.inl (by simp))
                have HI10 := Lib.hid (HI9.out.keptV Z9.out V10)
                have B10 := Lib.hid (B9.out.kept V10 (by simp; omega))
                have U10 := Lib.hid (U9.out.after0 V10 (by simp; exact hg5))
                have HGn : Hid (GS (w9.setCell ⟨g5, k, none⟩ (.slice (some ⟨g, 0, none⟩) 2 2)) w1.heap.size (.slice (some ⟨g5, 0, none⟩) (P.length + 1) c5) (rowG fs rs (ordG fs rs rs.length f) f (r + 1))) := by
                  show GS _ _ _ _
                  rw [← HNx.out, ← HPI.out]
                  refine GS.fin HkL.out.1 ?_ HI10.out HL.out
                  have := Z10.out
                  rw [show P.length + 1 - (k + 1) = L.length - k by have := HLl.out; omega] at this
                  exact this
                clear V10
                go_roundw
                case rel => exact ⟨r + 1, by omega, by go_num, HGn, B10, U10⟩
                case measure => simp [intOf]; omega
            · have hkp : 0 < k := by omega
              obtain ⟨e1, he1⟩ : ∃ e, P[k - 1]? = some e := ⟨_, List.getElem?_eq_getElem (by omega)⟩
              have hin := HIn.out e1 (mem_of_get he1)
              obtain ⟨ob, oc, g1, ev, hce, HZ⟩ := (HG0.out.kept0 V4.out).get he1
              cases ev
              have HE1 := Lib.hid he1
              clear he1 hk0
              obtain ⟨s, hs⟩ : ∃ s, cmpG fs rs e1 (f, r) = s := ⟨_, rfl⟩
              have HSS := Lib.hid hs
              clear hs
              obtain ⟨hb0, hb1, hb2⟩ := B4.out.cells
              have hP100 : P.length ≤ 100 := HPl.out
              have hw1 : IntKind.i64.wrap ((k : Int) - 1) = (k : Int) - 1 := IntWalk.i64_in _ (by omega)
              have i3 : (0 : Int) ≤ (k : Int) - 1 := by omega
              have i4 : (k : Int) - 1 < (P.length : Int) := by omega
              have i5 : ((k : Int) - 1).toNat = k - 1 := by omega
              have i6 : (1 : Int) ≤ (k : Int) := by omega
              go_wp2_with fail
              refine wp_region_still_tail 10 (by kernel_rfl) (by kernel_rfl) ?_
              simp only [List.take_succ_cons, List.take_zero, List.drop_succ_cons, List.drop_zero]
              repeat still_step
              refine wpStill_nil ?_
              clear hw1 i3 i4 i5 i6 hb0 hb1 hb2 hce
              change wpList _ _ _ _ _ w4.drew
              have B5 := Lib.hid (B4.out.kept (Upd.refl w4).drew (by simp))
              have U5 := Lib.hid (U4.out.drew)
              have V5 := Lib.hid (V4.out.drew)
              have Z5 := Lib.hid (HZ.out.kept0 (Upd.refl w4).drew)
              clear B4 U4 V4 HZ
              generalize w4.drew = w5 at B5 U5 V5 Z5 ⊢
              go_wp2_with fail
              refine (compareRatios_c a1 a2 _ _ fs rs n _ (H1.out _ U5.out).1 (H1.out _ U5.out).2 hl1 hl2 _ _ _ _ e1.1 e1.2 f r s HSS.out Z5.out (HP.out.kept0 V5.out).ints hin.1 hin.2 hfl hrl ht hu).mono ?_
              rintro e w6 ⟨rfl, u1⟩
              have Bt := Lib.hid (B5.out.kept u1 (by simp))
              have Ut := Lib.hid (U5.out.then0 u1)
              have Vt := Lib.hid (V5.out.then0 u1)
              clear u1 B5 U5 V5 Z5
              by_cases hs0 : 0 < s
              · have HKn : Hid (∀ j e, k - 1 ≤ j → P[j]? = some e → 0 < cmpG fs rs e (f, r)) := by
                  intro j e h1 h2
                  by_cases ej : j = k - 1
                  · subst ej
                    have := HE1.out
                    rw [h2] at this
                    simp only [Option.some.injEq] at this
                    subst this
                    rw [HSS.out]; exact hs0
                  · exact HK1.out j e (by omega) h2
                go_wp2_with fail
                go_roundw
                case rel => exact ⟨k - 1, by omega, by go_num, HKn, Bt, Vt⟩
                case measure => simp [intOf]; omega
              · have HK2 : Hid (∀ e, 0 < k → P[k - 1]? = some e → cmpG fs rs e (f, r) ≤ 0) := by
                  intro e _ h2
                  have := HE1.out
                  rw [h2] at this
                  simp only [Option.some.injEq] at this
                  subst this
                  have := HSS.out
                  omega
                have HPI : Hid (P.take k ++ (f, r) :: P.drop k = insR fs rs P (f, r)) := insR_at_back hu hk hrl HIn.out HSr.out HK2.out (fun e he => HK1.out k e (Nat.le_refl _) he)
                have HI4 : Hid (Inn w6 w1.heap.size (L.take k ++ (g, gq (f, r)) :: L.drop k)) := (HI.out.kept0 Vt.out).ins (g, gq (f, r)) (HP.out.kept0 Vt.out) HD.out k
                have HV4 := Lib.hid (HV.out.kept0 Vt.out)
                have HkL : Hid (k ≤ L.length ∧ L.length = P.length) := ⟨by have := HLl.out; omega, HLl.out⟩
                have HLn : Hid ((L.map valR ++ [Value.slice none 0 0]).length = P.length + 1) := by show _ = _; simp [HLl.out]
                go_wp2_with (at_builtin; refine wpList_appV rfl _ _ rfl _ _ none 0 0 rfl rfl HV4.out Ut.out (by have := HkL.out.2; have := HPl.out; simp; omega) ?_; intro v' w7 z1 z2 z3; obtain ⟨g5, c5, ev, hg5, hlt5⟩ := z1.row (by simp); rw [HLn.out] at ev; subst ev; have hcap5 := z1.cap.1; rw [HLn.out] at hcap5; have Z1 := Lib.hid z1; have HI5 := Lib.hid (HI4.out.keptV HV4.out z2); have U7 := Lib.hid z3; have B7 := Lib.hid (Bt.out.kept z2 (HV4.out.far hw1s)); clear z1 z2 z3)
                by_cases hcc : c5 = k + 1
                · subst hcc
                  have HOne : Hid (∀ u, u ∈ L.map valR ++ [Value.slice none 0 0] → u.oneCell' = true) := fun u hu => by
                    rcases List.mem_append.1 hu with h | h
                    · obtain ⟨x, -, rfl⟩ := List.mem_map.1 h; rfl
                    · rw [List.mem_singleton.1 h]; rfl
                  have HCs : Hid ((splice (L.map valR ++ [Value.slice none 0 0]) (k + 1) (((L.map valR ++ [Value.slice none 0 0]).drop k).take (P.length + 1 - (k + 1)))).length = P.length + 1) := by
                    show _ = _
                    rw [length_splice _ _ _ (by rw [HLn.out]; simp; have := HLl.out; omega), HLn.out]
                  have hw1 : IntKind.i64.wrap ((k : Int) + 1) = (k : Int) + 1 := IntWalk.i64_in _ (by have := HPl.out; omega)
                  have i1 : (0 : Int) ≤ (k : Int) + 1 := by omega
                  have i2 : (k : Int) + 1 ≤ (P.length : Int) + 1 := by omega
                  have i3 : (k : Int) ≤ (P.length : Int) + 1 := by omega
                  have i4 : ¬ (k + 1) = k := by omega
                  go_wp2_with fail
                  refine wp_region_still_tail 7 (by kernel_rfl) (by kernel_rfl) ?_
                  simp only [List.take_succ_cons, List.take_zero, List.drop_succ_cons, List.drop_zero]
                  repeat still_step
                  refine wpStill_nil ?_
                  clear hw1 i1 i2 i3 i4
                  change wpList _ _ _ _ _ w7.drew
                  have Z8 := Lib.hid (Z1.out.kept0 (Upd.refl w7).drew)
                  have HI8 := Lib.hid (HI5.out.kept0 (Upd.refl w7).drew)
                  have B8 := Lib.hid (B7.out.kept (Upd.refl w7).drew (by simp))
                  have U8 := Lib.hid (U7.out.drew)
                  clear Z1 HI5 B7 U7
                  generalize w7.drew = w8 at Z8 HI8 B8 U8 ⊢
                  refine wpList_copyV rfl _ _ rfl w1.heap.size g5 (P.length + 1) (k + 1) k _ HOne.out Z8.out (by omega) _ _ _ _ _ _ rfl rfl (by omega) (by omega) (fun h => absurd h (by omega)) rfl ?_
                  intro w9 t y1 y2
                  have Z9 := Lib.hid y1
                  have HI9 := Lib.hid (HI8.out.keptV Z8.out y2)
                  have B9 := Lib.hid (B8.out.kept y2 (by simp; omega))
                  have U9 := Lib.hid (U8.out.after0 y2 (by simp; exact hg5))
                  clear y1 y2
                  have hcx := Z9.out.cell (k := k) (List.getElem?_eq_getElem (by rw [HCs.out]; omega))
                  have hfx := Z9.out.free k
                  go_wp2_with fail
                  have Z10 := Lib.hid (Z9.out.set k (.slice (some ⟨g, 0, none⟩) 2 2) (by rw [HCs.out]; omega))
                  have V10 : Upd [g5] w9 (w9.setCell ⟨g5, k, none⟩ (.slice (some ⟨g, 0, none⟩) 2 2)) := ((Upd.refl w9).mono (by simp)).setCell _ (.inl (by simp))
                  have HI10 := Lib.hid (HI9.out.keptV Z9.out V10)
                  have B10 := Lib.hid (B9.out.kept V10 (by simp; omega))
                  have U10 := Lib.hid (U9.out.after0 V10 (by simp; exact hg5))
                  have HGn : Hid (GS (w9.setCell ⟨g5, k, none⟩ (.slice (some ⟨g, 0, none⟩) 2 2)) w1.heap.size (.slice (some ⟨g5, 0, none⟩) (P.length + 1) (k + 1)) (rowG fs rs (ordG fs rs rs.length f) f (r + 1))) := by
                    show GS _ _ _ _
                    rw [← HNx.out, ← HPI.out]
                    refine GS.fin HkL.out.1 ?_ HI10.out HL.out
                    have := Z10.out
                    rw [show P.length + 1 - (k + 1) = L.length - k by have := HLl.out; omega] at this
                    exact this
                  clear V10
                  go_roundw
                  case rel => exact ⟨r + 1, by omega, by go_num, HGn, B10, U10⟩
                  case measure => simp [intOf]; omega
                · skip
                  have HOne : Hid (∀ u, u ∈ L.map valR ++ [Value.slice none 0 0] → u.oneCell' = true) := fun u hu => by
                    rcases List.mem_append.1 hu with h | h
                    · obtain ⟨x, -, rfl⟩ := List.mem_map.1 h; rfl
                    · rw [List.mem_singleton.1 h]; rfl
                  have HCs : Hid ((splice (L.map valR ++ [Value.slice none 0 0]) (k + 1) (((L.map valR ++ [Value.slice none 0 0]).drop k).take (P.length + 1 - (k + 1)))).length = P.length + 1) := by
                    show _ = _
                    rw [length_splice _ _ _ (by rw [HLn.out]; simp; have := HLl.out; omega), HLn.out]
                  have hw1 : IntKind.i64.wrap ((k : Int) + 1) = (k : Int) + 1 := IntWalk.i64_in _ (by have := HPl.out; omega)
                  have i1 : (0 : Int) ≤ (k : Int) + 1 := by omega
                  have i2 : (k : Int) + 1 ≤ (P.length : Int) + 1 := by omega
                  have i3 : (k : Int) ≤ (P.length : Int) + 1 := by omega
                  have i4 : ¬ c5 = k := by omega
                  go_wp2_with fail
                  refine wp_region_still_tail 7 (by kernel_rfl) (by kernel_rfl) ?_
                  simp only [List.take_succ_cons, List.take_zero, List.drop_succ_cons, List.drop_zero]
                  repeat still_step
                  refine wpStill_nil ?_
                  clear hw1 i1 i2 i3 i4
                  change wpList _ _ _ _ _ w7.drew
                  have Z8 := Lib.hid (Z1.out.kept0 (Upd.refl w7).drew)
                  have HI8 := Lib.hid (HI5.out.kept0 (Upd.refl w7).drew)
                  have B8 := Lib.hid (B7.out.kept (Upd.refl w7).drew (by simp))
                  have U8 := Lib.hid (U7.out.drew)
                  clear Z1 HI5 B7 U7
                  generalize w7.drew = w8 at Z8 HI8 B8 U8 ⊢
                  refine wpList_copyV rfl _ _ rfl w1.heap.size g5 (P.length + 1) c5 k _ HOne.out Z8.out (by omega) _ _ _ _ _ _ rfl rfl (by omega) (by omega) (fun _ => rfl) rfl ?_
                  intro w9 t y1 y2
                  have Z9 := Lib.hid y1
                  have HI9 := Lib.hid (HI8.out.keptV Z8.out y2)
                  have B9 := Lib.hid (B8.out.kept y2 (by simp; omega))
                  have U9 := Lib.hid (U8.out.after0 y2 (by simp; exact hg5))
                  clear y1 y2
                  have hcx := Z9.out.cell (k := k) (List.getElem?_eq_getElem (by rw [HCs.out]; omega))
                  have hfx := Z9.out.free k
                  go_wp2_with fail
                  have Z10 := Lib.hid (Z9.out.set k (.slice (some ⟨g, 0, none⟩) 2 2) (by rw [HCs.out]; omega))
                  have V10 : Upd [g5] w9 (w9.setCell ⟨g5, k, none⟩ (.slice (some ⟨g, 0, none⟩) 2 2)) := ((Upd.refl w9).mono (by simp)).setCell _ (.inl (by simp))
                  have HI10 := Lib.hid (HI9.out.keptV Z9.out V10)
                  have B10 := Lib.hid (B9.out.kept V10 (by simp; omega))
                  have U10 := Lib.hid (U9.out.after0 V10 (by simp; exact hg5))
                  have HGn : Hid (GS (w9.setCell ⟨g5, k, none⟩ (.slice (some ⟨g, 0, none⟩) 2 2)) w1.heap.size (.slice (some ⟨g5, 0, none⟩) (P.length + 1) c5) (rowG fs rs (ordG fs rs rs.length f) f (r + 1))) := by
                    show GS _ _ _ _
                    rw [← HNx.out, ← HPI.out]
                    refine GS.fin HkL.out.1 ?_ HI10.out HL.out
                    have := Z10.out
                    rw [show P.length + 1 - (k + 1) = L.length - k by have := HLl.out; omega] at this
                    exact this
                  clear V10
                  go_roundw
                  case rel => exact ⟨r + 1, by omega, by go_num, HGn, B10, U10⟩
                  case measure => simp [intOf]; omega
        · obtain rfl : r = rs.length := by omega
          go_wp2_with fail
          go_roundw
          case rel => exact ⟨f + 1, by omega, by go_num, HG, B0, U1⟩
          case measure => simp [intOf]; omega
    · obtain rfl : f = fs.length := by omega
      go_wp2_with fail
      go_ret
      exact ⟨_, rfl, HG.out.mono (by omega), UW.out.then0 U1.out⟩
end Go.Proofs.Ytjnkckpebfafjaa
