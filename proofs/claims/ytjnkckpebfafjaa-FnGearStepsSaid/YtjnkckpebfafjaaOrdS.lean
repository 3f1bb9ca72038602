/- Chapter 9: the reference's order of the gears. -/
import Derived.Test.YtjnkckpebfafjaaOrd
import Derived.Deep.RegionLaw
namespace Go.Proofs.Ytjnkckpebfafjaa
open Go.RowKit
set_option linter.unusedVariables false
set_option linter.unusedSimpArgs false

theorem GS.cell {w : World} {B ob oc n : Nat} {P : List (Nat × Nat)} (h : GS w B (.slice (some ⟨ob, 0, none⟩) n oc) P) {j : Nat} {e : Nat × Nat} (hj : P[j]? = some e) :
    ∃ g, w.cell? ⟨ob, j, none⟩ = some (.slice (some ⟨g, 0, none⟩) 2 2) ∧ Hid (IntsAt w (some ⟨g, 0, none⟩) [(e.1 : Int), (e.2 : Int)]) := by
  obtain ⟨ob', oc', g, e1, e2, e3⟩ := h.get hj
  cases e1
  exact ⟨g, e2, e3⟩
theorem OwnV.block {w : World} {B b : Nat} (hB : B ≤ b) (h : w.heap[b]? = some (.cells #[] 24 (0, 0))) : OwnV w B (.slice (some ⟨b, 0, none⟩) 0 0) [] :=
  ⟨rfl, .inr ⟨b, 0, #[], rfl, hB, h, Nat.le_refl _, by unfold maxLen; omega, rfl, rfl⟩⟩
theorem OwnV.mono {w : World} {B B' : Nat} {v : Value} {vs : List Value} (h : OwnV w B v vs) (hB : B' ≤ B) : OwnV w B' v vs := by
  refine ⟨h.1, ?_⟩
  rcases h.2 with hn | ⟨g, cap, cur, e, hb, rest⟩
  · exact .inl hn
  · exact .inr ⟨g, cap, cur, e, by omega, rest⟩
theorem OwnV.news {w : World} {B ob n c : Nat} {vs : List Value} (h : OwnV w B (.slice (some ⟨ob, 0, none⟩) n c) vs) (k : Nat) : ∀ j u, (vs.take k)[j]? = some u → w.cell? ((⟨ob, 0, none⟩ : Addr).add j) = some u := by
  intro j u hu
  rw [List.getElem?_take] at hu
  split at hu
  · rw [Addr.add_lit, Nat.zero_add]; exact h.cell hu
  · simp at hu
theorem OwnV.newsk {w : World} {B ob n c : Nat} {vs : List Value} (h : OwnV w B (.slice (some ⟨ob, 0, none⟩) n c) vs) (k : Nat) : ∀ j u, (vs.drop k)[j]? = some u → w.cell? ((⟨ob, k, none⟩ : Addr).add j) = some u := by
  intro j u hu
  rw [List.getElem?_drop] at hu
  rw [Addr.add_lit]; exact h.cell hu
theorem cell_last (w : World) (v : Value) (t : TypeId) (b : Nat) (hb : b = w.heap.size) : (w.alloc (.cells #[v] t)).cell? ⟨b, 0, none⟩ = some v := by subst hb; have := cell_one_new w v t 0 v rfl; rwa [Addr.add_lit] at this
theorem one_news {w : World} {ad : Addr} {v : Value} (h : w.cell? ad = some v) (hs : ad.spot = none) : ∀ j u, [v][j]? = some u → w.cell? (ad.add j) = some u := by
  obtain ⟨b, off, spot⟩ := ad
  simp only at hs; subst hs
  intro j u hu
  cases j with
  | zero => simp at hu; subst hu; rw [Addr.add_lit]; exact h
  | succ j => simp at hu
theorem step_appVs {ops : Array Oper} {o : Oper} {a : Act} {w : World} {K : Act → World → Prop} {Q : Exit → Act → World → Prop} {E : Prop} (hgd : o.guard = none) (s x : Operand)
    (hop : o.op = .call { callee := .builtin .append, args := #[s, x], argTypes := #[35, 35] })
    (B g c0 : Nat) (vs us : List Value) (n m N : Nat) (hn : vs.length = n) (hm : us.length = m) (hN : n + m = N) (ad : Addr) (c : Nat) (hs : a.eval s = .slice (some ⟨g, 0, none⟩) n c0) (hx : a.eval x = .slice (some ad) m c)
    (hown : OwnV w B (.slice (some ⟨g, 0, none⟩) n c0) vs) (hy : ∀ j u, us[j]? = some u → w.cell? (ad.add j) = some u) (h1 : ∀ u ∈ us, u.oneCell' = true)
    (hB : B ≤ w.heap.size) (hl : N ≤ 2097152)
    (h : ∀ g' c' w', OwnV w' B (.slice (some ⟨g', 0, none⟩) N c') (vs ++ us) → Upd [g] w w' → B ≤ g' → K (a.put o.dst (.slice (some ⟨g', 0, none⟩) N c')) w') :
    if Region.wanted o (yielded ops a.tmps) = true then Oper.wp Try.prog o a w K Q else E := by
  have hw : Region.wanted o (yielded ops a.tmps) = true := by simp [Region.wanted, hgd]
  rw [if_pos hw]
  subst hn; subst hm; subst hN
  obtain ⟨i0, hi, hz0, hz1, hz2⟩ := info_parts infoS
  refine wp_append_own w s x 35 hop B 24 i0 (.slice none 0 0) 1 24 Try.underlying35 hi hz0 hz1 hz2 rfl (by decide) _ vs.length vs hs hown
    ad us.length c us hx (by simp) hy h1 (by unfold maxLen; omega) (by omega) hB fun v' w' h1 h2 h3 => ?_
  rcases h1.2 with ⟨e, _⟩ | ⟨g', c', cur, e, hb, rest⟩
  · have := (h3.1 e).1; simp at this
  · subst e
    refine h g' c' w' ?_ (((Upd.refl w).mono (by simp)).grown h2 fun k hk => .inl (by simpa [Value.ownBlock] using hk.symm)) hb
    unfold OwnV; simpa using h1
set_option maxHeartbeats 6400000 in
theorem l09Order_c (a1 a2 : Option Addr) (c1 c2 : Nat) (fs rs : List Int) (n : Int) (w : World) (h1 : IntsAt w a1 fs) (h2 : IntsAt w a2 rs) (hl1 : fs.length ≤ 1048576) (hl2 : rs.length ≤ 1048576) (ht : TeethOk fs) (hu : TeethOk rs) (hf3 : fs.length ≤ 3) (hr12 : rs.length ≤ 12) :
    Calls Try.prog 46 #[.agg #[.slice a1 fs.length c1, .slice a2 rs.length c2, .int .i64 n]] w (NewG w (orderF fs rs)) := by
  have H : Hid (∀ w', Upd [] w w' → IntsAt w' a1 fs ∧ IntsAt w' a2 rs) := fun w' u => ⟨h1.kept0 u, h2.kept0 u⟩
  clear h1 h2
  have B0 := Lib.hid (Box.new w (.slice a1 fs.length c1) (.slice a2 rs.length c2) (.int .i64 n) 26)
  have U0 := Lib.hid ((Upd.refl w).alloc (.cells #[.slice a1 fs.length c1, .slice a2 rs.length c2, .int .i64 n] 26))
  obtain ⟨hb0, hb1, hb2⟩ := B0.out.cells
  go_enter Try.func46, Try.ntmps46
  have HG : Hid (GS ((w.alloc (.cells #[.slice a1 fs.length c1, .slice a2 rs.length c2, .int .i64 n] 26)).alloc (.cells #[] 24)) (w.alloc (.cells #[.slice a1 fs.length c1, .slice a2 rs.length c2, .int .i64 n] 26)).heap.size (.slice (some ⟨(w.alloc (.cells #[.slice a1 fs.length c1, .slice a2 rs.length c2, .int .i64 n] 26)).heap.size, 0, none⟩) 0 0) (ordG fs rs rs.length 0)) := ⟨[], ⟨OwnV.lit (Upd.refl _), Inn.nil _ _⟩, rfl⟩
  have B2 := Lib.hid (B0.out.kept ((Upd.refl (w.alloc (.cells #[.slice a1 fs.length c1, .slice a2 rs.length c2, .int .i64 n] 26))).alloc (.cells #[] 24)) (by simp))
  have U2 := Lib.hid ((Upd.refl (w.alloc (.cells #[.slice a1 fs.length c1, .slice a2 rs.length c2, .int .i64 n] 26))).alloc (.cells #[] 24))
  have hws : (w.alloc (.cells #[.slice a1 fs.length c1, .slice a2 rs.length c2, .int .i64 n] 26)).heap.size = w.heap.size + 1 := by simp
  go_wp2_with fail
  rw [hws] at HG
  clear hb0 hb1 hb2 B0 hws
  have hw1s : w.heap.size < (w.alloc (.cells #[.slice a1 fs.length c1, .slice a2 rs.length c2, .int .i64 n] 26)).heap.size := by simp
  generalize (w.alloc (.cells #[.slice a1 fs.length c1, .slice a2 rs.length c2, .int .i64 n] 26)).alloc (.cells #[] 24) = w2 at HG B2 U2 ⊢
  generalize w.alloc (.cells #[.slice a1 fs.length c1, .slice a2 rs.length c2, .int .i64 n] 26) = w1 at U0 U2 hw1s HG ⊢
  have H1 : Hid (∀ w', Upd [] w1 w' → IntsAt w' a1 fs ∧ IntsAt w' a2 rs) := fun w' u => H.out w' (U0.out.then0 u)
  clear H
  have UW := U0
  replace U0 := U2
  clear U2
  have HG0 : Hid (∃ ob oc, (Value.slice (some ⟨w.heap.size + 1, 0, none⟩) 0 0) = .slice (some ⟨ob, 0, none⟩) (ordG fs rs rs.length 0).length oc) := ⟨_, _, rfl⟩
  go_loopw [3, 4] (fun v i wr => ∃ f : Nat, f ≤ fs.length ∧ i = .int .i64 f ∧ Hid (∃ ob oc, v = .slice (some ⟨ob, 0, none⟩) (ordG fs rs rs.length f).length oc) ∧ Hid (GS wr (w.heap.size + 1) v (ordG fs rs rs.length f)) ∧ Hid (Box wr w.heap.size (.slice a1 fs.length c1) (.slice a2 rs.length c2) (.int .i64 n) 26) ∧ Hid (Upd [] w1 wr)) (fun _ i _ => fs.length - (intOf i).toNat)
  case atStart => exact ⟨0, by omega, rfl, HG0, HG, B2, U0⟩
  case round =>
    clear HG B2 U0 HG0
    obtain ⟨f, hf, rfl, HF, HG, B0, U1⟩ := hrel
    by_cases hfl : f < fs.length
    · obtain ⟨hb0, hb1, hb2⟩ := B0.out.cells
      go_wp2_with fail
      clear hb0 hb1 hb2
      go_loopw [3, 5] (fun v i wr => ∃ r : Nat, r ≤ rs.length ∧ i = .int .i64 r ∧ Hid (∃ ob oc, v = .slice (some ⟨ob, 0, none⟩) (rowG fs rs (ordG fs rs rs.length f) f r).length oc) ∧ Hid (GS wr (w.heap.size + 1) v (rowG fs rs (ordG fs rs rs.length f) f r)) ∧ Hid (Box wr w.heap.size (.slice a1 fs.length c1) (.slice a2 rs.length c2) (.int .i64 n) 26) ∧ Hid (Upd [] w1 wr)) (fun _ i _ => rs.length - (intOf i).toNat)
      case atStart => exact ⟨0, by omega, rfl, HF, HG, B0, U1⟩
      case round =>
        clear HG B0 U1 HF
        obtain ⟨r, hr, rfl, HF, HG, B0, U1⟩ := hrel
        by_cases hrl : r < rs.length
        · have HQ : Hid (SrtG fs rs (rowG fs rs (ordG fs rs rs.length f) f r) ∧ InG fs rs (rowG fs rs (ordG fs rs rs.length f) f r)) := rowG_srt hu hfl hr (ordG_srt hu hf).2 (ordG_srt hu hf).1
          have HPl : Hid ((rowG fs rs (ordG fs rs rs.length f) f r).length ≤ 100) := by
            show _ ≤ _
            rw [rowG_length, ordG_length]
            have : f * rs.length ≤ 2 * 12 := Nat.mul_le_mul (by omega) hr12
            omega
          have HNx : Hid (insR fs rs (rowG fs rs (ordG fs rs rs.length f) f r) (f, r) = rowG fs rs (ordG fs rs rs.length f) f (r + 1)) := rfl
          have hfl2 := HF.out
          clear HF
          generalize rowG fs rs (ordG fs rs rs.length f) f r = P at HQ HPl HNx HG hfl2
          obtain ⟨ob, oc, ev⟩ := hfl2
          subst ev
          have HSr := Lib.hid HQ.out.1
          have HIn := Lib.hid HQ.out.2
          clear HQ
          obtain ⟨L, hor, hL⟩ := HG.out
          have HLl := Lib.hid (gq_len hL)
          have HL := Lib.hid hL
          clear hL
          have HD0 : Hid (∀ x, x ∈ L → x.1 ≠ wr.heap.size) := fun x hx => by have := (hor.2.lt hx).2; omega
          have HS1 : Hid (w.heap.size + 1 ≤ wr.heap.size) := by have := U1.out.size; show _ ≤ _; omega
          have HP0 := Lib.hid (OwnI.pair HS1.out f r)
          have V0 := Lib.hid ((Upd.refl wr).alloc (.cells #[.int .i64 f, .int .i64 r] 2))
          have HV0 := Lib.hid (hor.1.kept0 V0.out)
          have HI0 := Lib.hid (hor.2.kept0 V0.out)
          clear hor
          have HG0 := Lib.hid (HG.out.kept0 V0.out)
          clear HG
          have B3 := Lib.hid (B0.out.kept V0.out (by simp))
          have U3 := Lib.hid (U1.out.then0 V0.out)
          obtain ⟨hb0, hb1, hb2⟩ := B0.out.cells
          clear B0 U1
          go_wp2_with fail
          clear hb0 hb1 hb2
          obtain ⟨g, hg⟩ : ∃ g, wr.heap.size = g := ⟨_, rfl⟩
          generalize wr.alloc (.cells #[.int .i64 f, .int .i64 r] 2) = w3 at HP0 HV0 HI0 HG0 B3 U3 V0 ⊢
          rw [hg] at HP0 HD0 ⊢
          clear V0 HS1 hg
          have HP := HP0
          have HV := HV0
          have HI := HI0
          have HD := HD0
          clear HP0 HV0 HI0 HD0
          go_loopw [7] (fun kv wr => ∃ k : Nat, k ≤ P.length ∧ kv = .int .i64 k ∧ Hid (∀ j e, j < k → P[j]? = some e → cmpG fs rs e (f, r) ≤ 0) ∧ Hid (Box wr w.heap.size (.slice a1 fs.length c1) (.slice a2 rs.length c2) (.int .i64 n) 26) ∧ Hid (Upd [] w3 wr)) (fun kv _ => P.length - (intOf kv).toNat)
          case atStart => exact ⟨0, by omega, rfl, fun j e h1 h2 => by omega, B3, Upd.refl w3⟩
          case round =>
            clear B3
            obtain ⟨k, hk, rfl, HK1, B4, V4⟩ := hrel
            obtain ⟨w4, ew4⟩ : ∃ x : World, x = wr := ⟨_, rfl⟩
            subst ew4
            have U4 := Lib.hid (U3.out.then0 V4.out)
            by_cases hk0 : k < P.length
            · obtain ⟨e1, he1⟩ : ∃ e, P[k]? = some e := ⟨_, List.getElem?_eq_getElem hk0⟩
              have hin := HIn.out e1 (mem_of_get he1)
              obtain ⟨g1, hce, HZ⟩ := (HG0.out.kept0 V4.out).cell he1
              have HE1 := Lib.hid he1
              clear he1
              obtain ⟨s, hs⟩ : ∃ s, sgnI (cmpG fs rs e1 (f, r)) = s := ⟨_, rfl⟩
              have HSS := Lib.hid hs
              clear hs
              obtain ⟨hb0, hb1, hb2⟩ := B4.out.cells
              have i3 : (0 : Int) ≤ (k : Int) := by omega
              have i4 : (k : Int) < (P.length : Int) := by omega
              have hP100 : P.length ≤ 100 := HPl.out
              go_wp2_with fail
              refine wp_region_still_tail 11 (by kernel_rfl) (by kernel_rfl) ?_
              simp only [List.take_succ_cons, List.take_zero, List.drop_succ_cons, List.drop_zero]
              repeat still_step
              refine wpStill_nil ?_
              clear i3 i4 hb0 hb1 hb2 hce
              change wpList _ _ _ _ _ w4.drew
              have B5 := Lib.hid (B4.out.kept (Upd.refl w4).drew (by simp))
              have U5 := Lib.hid (U4.out.drew)
              have V5 := Lib.hid (V4.out.drew)
              have Z5 := Lib.hid (HZ.out.kept0 (Upd.refl w4).drew)
              clear B4 U4 V4 HZ
              generalize w4.drew = w5 at B5 U5 V5 Z5 ⊢
              go_wp2_with fail
              refine (l09Compare_c a1 a2 _ _ fs rs n _ (H1.out _ U5.out).1 (H1.out _ U5.out).2 hl1 hl2 _ _ _ _ e1.1 e1.2 f r s HSS.out Z5.out (HP.out.kept0 V5.out).ints hin.1 hin.2 hfl hrl ht hu).mono ?_
              rintro e w6 ⟨rfl, u1⟩
              have Bt := Lib.hid (B5.out.kept u1 (by simp))
              have Ut := Lib.hid (U5.out.then0 u1)
              have Vt := Lib.hid (V5.out.then0 u1)
              clear u1 B5 U5 V5 Z5
              by_cases hs0 : s ≤ 0
              · have HKn : Hid (∀ j e, j < k + 1 → P[j]? = some e → cmpG fs rs e (f, r) ≤ 0) := by
                  intro j e h1 h2
                  by_cases ej : j = k
                  · subst ej
                    have := HE1.out
                    rw [h2] at this
                    simp only [Option.some.injEq] at this
                    subst this
                    have := HSS.out
                    apply Classical.byContradiction
                    intro hx
                    have := sgnI_gt (x := cmpG fs rs e (f, r)) (by omega)
                    omega
                  · exact HK1.out j e (by omega) h2
                go_wp2_with fail
                go_roundw
                case rel => exact ⟨k + 1, by omega, by go_num, HKn, Bt, Vt⟩
                case measure => simp [intOf]; omega
              · have HK2 : Hid (∀ e, P[k]? = some e → 0 < cmpG fs rs e (f, r)) := by
                  intro e h2
                  have := HE1.out
                  rw [h2] at this
                  simp only [Option.some.injEq] at this
                  subst this
                  have := HSS.out
                  apply Classical.byContradiction
                  intro hx
                  have := sgnI_le (x := cmpG fs rs e (f, r)) (by omega)
                  omega
                have HPI : Hid (P.take k ++ (f, r) :: P.drop k = insR fs rs P (f, r)) := insR_at fs rs P (f, r) k (by omega) (fun j e h1 h2 => HK1.out j e h1 h2) HK2.out
                have HI6 : Hid (Inn w6 (w.heap.size + 1) (L.take k ++ (g, gq (f, r)) :: L.drop k)) := (HI.out.kept0 Vt.out).ins (g, gq (f, r)) (HP.out.kept0 Vt.out) HD.out k
                have HBw : Hid (w.heap.size + 1 ≤ w6.heap.size) := by have := Ut.out.size; show _ ≤ _; omega
                have HVt := Lib.hid (HV.out.kept0 Vt.out)
                have HTk : Hid (((L.map valR).take k).length = k) := by show _ = _; have := HLl.out; simp; omega
                have HTk1 : Hid (((L.map valR).take k ++ [Value.slice (some ⟨g, 0, none⟩) 2 2]).length = k + 1) := by show _ = _; have := HLl.out; simp; omega
                have HDk : Hid (((L.map valR).drop k).length = P.length - k) := by show _ = _; have := HLl.out; simp; omega
                have HOA : ∀ u, u ∈ L.map valR → u.oneCell' = true := fun u hu => by obtain ⟨x, -, rfl⟩ := List.mem_map.1 hu; rfl
                have HOT : Hid (∀ u, u ∈ (L.map valR).take k → u.oneCell' = true) := fun u hu => HOA u (List.mem_of_mem_take hu)
                have HOD : Hid (∀ u, u ∈ (L.map valR).drop k → u.oneCell' = true) := fun u hu => HOA u (List.mem_of_mem_drop hu)
                have HO1 : Hid (∀ u, u ∈ [Value.slice (some ⟨g, 0, none⟩) 2 2] → u.oneCell' = true) := fun u hu => by rw [List.mem_singleton.1 hu]; rfl
                clear HOA
                have Ua := Lib.hid ((Upd.refl w6).drew.alloc (.cells #[] 24))
                have Ub := Lib.hid (((Upd.refl w6).drew.alloc (.cells #[] 24)).alloc (.cells #[.slice (some ⟨g, 0, none⟩) 2 2] 24))
                have Uc := Lib.hid (((Upd.refl w6).drew.alloc (.cells #[.slice (some ⟨g, 0, none⟩) 2 2] 24)).alloc (.cells #[] 24))
                have HLa : Hid (OwnV (w6.drew.alloc (.cells #[] 24)) w6.heap.size (.slice (some ⟨w6.heap.size, 0, none⟩) 0 0) []) := OwnV.block (Nat.le_refl _) (heap_alloc_new w6.drew _)
                have HLb : Hid (OwnV ((w6.drew.alloc (.cells #[] 24)).alloc (.cells #[.slice (some ⟨g, 0, none⟩) 2 2] 24)) w6.heap.size (.slice (some ⟨w6.heap.size, 0, none⟩) 0 0) []) := HLa.out.kept0 ((Upd.refl _).alloc _)
                have HLc : Hid (OwnV ((w6.drew.alloc (.cells #[.slice (some ⟨g, 0, none⟩) 2 2] 24)).alloc (.cells #[] 24)) w6.heap.size (.slice (some ⟨w6.heap.size + 1, 0, none⟩) 0 0) []) := OwnV.block (by omega) (by have := heap_alloc_new (w6.drew.alloc (.cells #[.slice (some ⟨g, 0, none⟩) 2 2] 24)) (.cells #[] 24); simpa using this)
                have hcap : P.length ≤ oc := by have := HV.out.cap.1; have := HLl.out; simp at *; omega
                have i1 : (0 : Int) ≤ (k : Int) := by omega
                have i2 : (k : Int) ≤ (oc : Int) := by omega
                have i3 : (k : Int) ≤ (P.length : Int) := by omega
                by_cases hoc : k = oc
                · exfalso; omega
                · have hoc' : ¬ oc = k := fun h => hoc h.symm
                  have HY : Hid (∀ w', Upd [] w6 w' → ∀ j u, ((L.map valR).drop k)[j]? = some u → w'.cell? ((⟨ob, k, none⟩ : Addr).add j) = some u) := fun w1 u => ((HV.out.kept0 Vt.out).kept0 u).newsk k
                  go_wp2_with fail
                  go_region_law (first
                    | (refine step_appVs rfl _ _ rfl w6.heap.size _ 0 [] ((L.map valR).take k) 0 k k rfl HTk.out (Nat.zero_add _) ⟨ob, 0, none⟩ _ rfl rfl HLa.out ((HVt.out.kept0 Ua.out).news k) HOT.out Ua.out.size (by have := HPl.out; omega) ?_
                       intro gA cA wA z1 z2 z3
                       have YA := Lib.hid z1
                       have UA := Lib.hid (Ua.out.after0 z2 (by simp))
                       clear z1 z2 z3)
                    | (refine step_appVs rfl _ _ rfl w6.heap.size _ 0 [] ((L.map valR).take k) 0 k k rfl HTk.out (Nat.zero_add _) ⟨ob, 0, none⟩ _ rfl rfl HLb.out ((HVt.out.kept0 Ub.out).news k) HOT.out Ub.out.size (by have := HPl.out; omega) ?_
                       intro gA cA wA z1 z2 z3
                       have YA := Lib.hid z1
                       have UA := Lib.hid (Ub.out.after0 z2 (by simp))
                       have HGc := Lib.hid (z2.cell (p := ⟨w6.heap.size + 1, 0, none⟩) (cell_last (w6.drew.alloc (.cells #[] 24)) (.slice (some ⟨g, 0, none⟩) 2 2) 24 (w6.heap.size + 1) (by simp)) (by simp))
                       clear z1 z2 z3)
                    | (refine step_appVs rfl _ _ rfl w6.heap.size _ 0 [] ((L.map valR).take k) 0 k k rfl HTk.out (Nat.zero_add _) ⟨ob, 0, none⟩ _ rfl rfl HLc.out ((HVt.out.kept0 Uc.out).news k) HOT.out Uc.out.size (by have := HPl.out; omega) ?_
                       intro gA cA wA z1 z2 z3
                       have YA := Lib.hid z1
                       have UA := Lib.hid (Uc.out.after0 z2 (by simp))
                       have HGc := Lib.hid (z2.cell (p := ⟨w6.heap.size, 0, none⟩) (((Upd.refl _).alloc (.cells #[] 24)).cell (cell_last w6.drew (.slice (some ⟨g, 0, none⟩) 2 2) 24 w6.heap.size rfl) (by simp)) (by simp))
                       clear z1 z2 z3)
                    | (refine step_appVs rfl _ _ rfl w6.heap.size _ _ ((L.map valR).take k) [.slice (some ⟨g, 0, none⟩) 2 2] k 1 (k + 1) HTk.out rfl rfl ⟨wA.heap.size, 0, none⟩ _ rfl rfl (YA.out.kept0 ((Upd.refl wA).alloc (.cells #[.slice (some ⟨g, 0, none⟩) 2 2] 24))) (one_news (cell_last wA _ _ _ rfl) rfl) HO1.out (UA.out.alloc _).size (by have := HPl.out; omega) ?_
                       intro gB cB wB z1 z2 z3
                       have YB := Lib.hid z1
                       have UB := Lib.hid ((UA.out.alloc (.cells #[.slice (some ⟨g, 0, none⟩) 2 2] 24)).after0 z2 (fun x hx => by rw [List.mem_singleton.1 hx]; exact ((World.ownsRow.lt (w := wA) YA.out) _ rfl).1))
                       clear z1 z2 z3)
                    | (refine step_appVs rfl _ _ rfl w6.heap.size _ _ ((L.map valR).take k) [.slice (some ⟨g, 0, none⟩) 2 2] k 1 (k + 1) HTk.out rfl rfl _ _ rfl rfl YA.out (one_news HGc.out rfl) HO1.out UA.out.size (by have := HPl.out; omega) ?_
                       intro gB cB wB z1 z2 z3
                       have YB := Lib.hid z1
                       have UB := Lib.hid (UA.out.after0 z2 (fun x hx => by rw [List.mem_singleton.1 hx]; exact ((World.ownsRow.lt (w := wA) YA.out) _ rfl).1))
                       clear z1 z2 z3)
                    | (refine step_appVs rfl _ _ rfl w6.heap.size _ _ ((L.map valR).take k ++ [.slice (some ⟨g, 0, none⟩) 2 2]) ((L.map valR).drop k) (k + 1) _ (P.length + 1) HTk1.out (by have := HDk.out; omega) (by omega) ⟨ob, k, none⟩ _ rfl rfl YB.out (HY.out _ UB.out) HOD.out UB.out.size (by have := HPl.out; omega) ?_
                       intro gC cC wC z1 z2 z3
                       have YC := Lib.hid z1
                       have UC := Lib.hid (UB.out.after0 z2 (fun x hx => by rw [List.mem_singleton.1 hx]; exact ((World.ownsRow.lt (w := wB) YB.out) _ rfl).1))
                       clear z1 z2 z3))
                  all_goals
                    go_wp2_with fail
                    have Bn := Lib.hid (Bt.out.kept UC.out (by simp))
                    have Un := Lib.hid (Ut.out.then0 UC.out)
                    have HFn : Hid (∃ ob oc, (Value.slice (some ⟨gC, 0, none⟩) (P.length + 1) cC) = .slice (some ⟨ob, 0, none⟩) (rowG fs rs (ordG fs rs rs.length f) f (r + 1)).length oc) := ⟨gC, cC, by rw [← HNx.out, insR_length]⟩
                    have HGn : Hid (GS wC (w.heap.size + 1) (.slice (some ⟨gC, 0, none⟩) (P.length + 1) cC) (rowG fs rs (ordG fs rs rs.length f) f (r + 1))) := by
                      show GS _ _ _ _
                      rw [← HNx.out, ← HPI.out]
                      refine ⟨_, ⟨?_, HI6.out.kept0 UC.out⟩, by rw [List.map_append, List.map_cons, List.map_take, List.map_drop, HL.out, List.map_append, List.map_cons, List.map_take, List.map_drop]⟩
                      have := YC.out.mono (B' := w.heap.size + 1) (by have := HBw.out; omega)
                      rw [show (L.take k ++ (g, gq (f, r)) :: L.drop k).map valR = ((L.map valR).take k ++ [Value.slice (some ⟨g, 0, none⟩) 2 2]) ++ (L.map valR).drop k by simp [List.map_take, List.map_drop, valR, gq]]
                      exact this
                    go_roundw
                    case rel => exact ⟨r + 1, by omega, by go_num, HFn, HGn, Bn, Un⟩
                    case measure => simp [intOf]; omega
            · obtain rfl : k = P.length := by omega
              have HK2 : Hid (∀ e, P[P.length]? = some e → 0 < cmpG fs rs e (f, r)) := fun e h => by have := get_lt h; omega
              have hd : decide (P.length < P.length) = false := by simp
              clear hk0
              go_wp2_with fail
              go_quiet (fail)
              have Bt := Lib.hid (B4.out.kept ((Upd.refl w4).drewN nq) (by simp))
              have Ut := Lib.hid (U4.out.drewN nq)
              have Vt := Lib.hid (V4.out.drewN nq)
              clear B4 U4 V4 hd
              generalize w4.drewN nq = w6 at Bt Ut Vt ⊢
              have HPI : Hid (P.take P.length ++ (f, r) :: P.drop P.length = insR fs rs P (f, r)) := insR_at fs rs P (f, r) P.length (by omega) (fun j e h1 h2 => HK1.out j e h1 h2) HK2.out
              have HI6 : Hid (Inn w6 (w.heap.size + 1) (L.take P.length ++ (g, gq (f, r)) :: L.drop P.length)) := (HI.out.kept0 Vt.out).ins (g, gq (f, r)) (HP.out.kept0 Vt.out) HD.out P.length
              have HBw : Hid (w.heap.size + 1 ≤ w6.heap.size) := by have := Ut.out.size; show _ ≤ _; omega
              have HVt := Lib.hid (HV.out.kept0 Vt.out)
              have HTk : Hid (((L.map valR).take P.length).length = P.length) := by show _ = _; have := HLl.out; simp; omega
              have HTk1 : Hid (((L.map valR).take P.length ++ [Value.slice (some ⟨g, 0, none⟩) 2 2]).length = P.length + 1) := by show _ = _; have := HLl.out; simp; omega
              have HDk : Hid (((L.map valR).drop P.length).length = P.length - P.length) := by show _ = _; have := HLl.out; simp; omega
              have HOA : ∀ u, u ∈ L.map valR → u.oneCell' = true := fun u hu => by obtain ⟨x, -, rfl⟩ := List.mem_map.1 hu; rfl
              have HOT : Hid (∀ u, u ∈ (L.map valR).take P.length → u.oneCell' = true) := fun u hu => HOA u (List.mem_of_mem_take hu)
              have HOD : Hid (∀ u, u ∈ (L.map valR).drop P.length → u.oneCell' = true) := fun u hu => HOA u (List.mem_of_mem_drop hu)
              have HO1 : Hid (∀ u, u ∈ [Value.slice (some ⟨g, 0, none⟩) 2 2] → u.oneCell' = true) := fun u hu => by rw [List.mem_singleton.1 hu]; rfl
              clear HOA
              have Ua := Lib.hid ((Upd.refl w6).drew.alloc (.cells #[] 24))
              have Ub := Lib.hid (((Upd.refl w6).drew.alloc (.cells #[] 24)).alloc (.cells #[.slice (some ⟨g, 0, none⟩) 2 2] 24))
              have Uc := Lib.hid (((Upd.refl w6).drew.alloc (.cells #[.slice (some ⟨g, 0, none⟩) 2 2] 24)).alloc (.cells #[] 24))
              have HLa : Hid (OwnV (w6.drew.alloc (.cells #[] 24)) w6.heap.size (.slice (some ⟨w6.heap.size, 0, none⟩) 0 0) []) := OwnV.block (Nat.le_refl _) (heap_alloc_new w6.drew _)
              have HLb : Hid (OwnV ((w6.drew.alloc (.cells #[] 24)).alloc (.cells #[.slice (some ⟨g, 0, none⟩) 2 2] 24)) w6.heap.size (.slice (some ⟨w6.heap.size, 0, none⟩) 0 0) []) := HLa.out.kept0 ((Upd.refl _).alloc _)
              have HLc : Hid (OwnV ((w6.drew.alloc (.cells #[.slice (some ⟨g, 0, none⟩) 2 2] 24)).alloc (.cells #[] 24)) w6.heap.size (.slice (some ⟨w6.heap.size + 1, 0, none⟩) 0 0) []) := OwnV.block (by omega) (by have := heap_alloc_new (w6.drew.alloc (.cells #[.slice (some ⟨g, 0, none⟩) 2 2] 24)) (.cells #[] 24); simpa using this)
              have hcap : P.length ≤ oc := by have := HV.out.cap.1; have := HLl.out; simp at *; omega
              have i1 : (0 : Int) ≤ (P.length : Int) := by omega
              have i2 : (P.length : Int) ≤ (oc : Int) := by omega
              have i3 : (P.length : Int) ≤ (P.length : Int) := by omega
              by_cases hoc : P.length = oc
              · subst hoc
                have HY : Hid (∀ w', Upd [] w6 w' → ∀ j u, ((L.map valR).drop P.length)[j]? = some u → w'.cell? ((⟨ob, 0, none⟩ : Addr).add j) = some u) := fun w1 _ j u hu => by rw [List.drop_eq_nil_of_le (by simp; have := HLl.out; omega)] at hu; simp at hu
                go_wp2_with fail
                go_region_law (first
                  | (refine step_appVs rfl _ _ rfl w6.heap.size _ 0 [] ((L.map valR).take P.length) 0 P.length P.length rfl HTk.out (Nat.zero_add _) ⟨ob, 0, none⟩ _ rfl rfl HLa.out ((HVt.out.kept0 Ua.out).news P.length) HOT.out Ua.out.size (by have := HPl.out; omega) ?_
                     intro gA cA wA z1 z2 z3
                     have YA := Lib.hid z1
                     have UA := Lib.hid (Ua.out.after0 z2 (by simp))
                     clear z1 z2 z3)
                  | (refine step_appVs rfl _ _ rfl w6.heap.size _ 0 [] ((L.map valR).take P.length) 0 P.length P.length rfl HTk.out (Nat.zero_add _) ⟨ob, 0, none⟩ _ rfl rfl HLb.out ((HVt.out.kept0 Ub.out).news P.length) HOT.out Ub.out.size (by have := HPl.out; omega) ?_
                     intro gA cA wA z1 z2 z3
                     have YA := Lib.hid z1
                     have UA := Lib.hid (Ub.out.after0 z2 (by simp))
                     have HGc := Lib.hid (z2.cell (p := ⟨w6.heap.size + 1, 0, none⟩) (cell_last (w6.drew.alloc (.cells #[] 24)) (.slice (some ⟨g, 0, none⟩) 2 2) 24 (w6.heap.size + 1) (by simp)) (by simp))
                     clear z1 z2 z3)
                  | (refine step_appVs rfl _ _ rfl w6.heap.size _ 0 [] ((L.map valR).take P.length) 0 P.length P.length rfl HTk.out (Nat.zero_add _) ⟨ob, 0, none⟩ _ rfl rfl HLc.out ((HVt.out.kept0 Uc.out).news P.length) HOT.out Uc.out.size (by have := HPl.out; omega) ?_
                     intro gA cA wA z1 z2 z3
                     have YA := Lib.hid z1
                     have UA := Lib.hid (Uc.out.after0 z2 (by simp))
                     have HGc := Lib.hid (z2.cell (p := ⟨w6.heap.size, 0, none⟩) (((Upd.refl _).alloc (.cells #[] 24)).cell (cell_last w6.drew (.slice (some ⟨g, 0, none⟩) 2 2) 24 w6.heap.size rfl) (by simp)) (by simp))
                     clear z1 z2 z3)
                  | (refine step_appVs rfl _ _ rfl w6.heap.size _ _ ((L.map valR).take P.length) [.slice (some ⟨g, 0, none⟩) 2 2] P.length 1 (P.length + 1) HTk.out rfl rfl ⟨wA.heap.size, 0, none⟩ _ rfl rfl (YA.out.kept0 ((Upd.refl wA).alloc (.cells #[.slice (some ⟨g, 0, none⟩) 2 2] 24))) (one_news (cell_last wA _ _ _ rfl) rfl) HO1.out (UA.out.alloc _).size (by have := HPl.out; omega) ?_
                     intro gB cB wB z1 z2 z3
                     have YB := Lib.hid z1
                     have UB := Lib.hid ((UA.out.alloc (.cells #[.slice (some ⟨g, 0, none⟩) 2 2] 24)).after0 z2 (fun x hx => by rw [List.mem_singleton.1 hx]; exact ((World.ownsRow.lt (w := wA) YA.out) _ rfl).1))
                     clear z1 z2 z3)
                  | (refine step_appVs rfl _ _ rfl w6.heap.size _ _ ((L.map valR).take P.length) [.slice (some ⟨g, 0, none⟩) 2 2] P.length 1 (P.length + 1) HTk.out rfl rfl _ _ rfl rfl YA.out (one_news HGc.out rfl) HO1.out UA.out.size (by have := HPl.out; omega) ?_
                     intro gB cB wB z1 z2 z3
                     have YB := Lib.hid z1
                     have UB := Lib.hid (UA.out.after0 z2 (fun x hx => by rw [List.mem_singleton.1 hx]; exact ((World.ownsRow.lt (w := wA) YA.out) _ rfl).1))
                     clear z1 z2 z3)
                  | (refine step_appVs rfl _ _ rfl w6.heap.size _ _ ((L.map valR).take P.length ++ [.slice (some ⟨g, 0, none⟩) 2 2]) ((L.map valR).drop P.length) (P.length + 1) _ (P.length + 1) HTk1.out (by have := HDk.out; omega) (by omega) ⟨ob, 0, none⟩ _ rfl rfl YB.out (HY.out _ UB.out) HOD.out UB.out.size (by have := HPl.out; omega) ?_
                     intro gC cC wC z1 z2 z3
                     have YC := Lib.hid z1
                     have UC := Lib.hid (UB.out.after0 z2 (fun x hx => by rw [List.mem_singleton.1 hx]; exact ((World.ownsRow.lt (w := wB) YB.out) _ rfl).1))
                     clear z1 z2 z3))
                all_goals
                  go_wp2_with fail
                  have Bn := Lib.hid (Bt.out.kept UC.out (by simp))
                  have Un := Lib.hid (Ut.out.then0 UC.out)
                  have HFn : Hid (∃ ob oc, (Value.slice (some ⟨gC, 0, none⟩) (P.length + 1) cC) = .slice (some ⟨ob, 0, none⟩) (rowG fs rs (ordG fs rs rs.length f) f (r + 1)).length oc) := ⟨gC, cC, by rw [← HNx.out, insR_length]⟩
                  have HGn : Hid (GS wC (w.heap.size + 1) (.slice (some ⟨gC, 0, none⟩) (P.length + 1) cC) (rowG fs rs (ordG fs rs rs.length f) f (r + 1))) := by
                    show GS _ _ _ _
                    rw [← HNx.out, ← HPI.out]
                    refine ⟨_, ⟨?_, HI6.out.kept0 UC.out⟩, by rw [List.map_append, List.map_cons, List.map_take, List.map_drop, HL.out, List.map_append, List.map_cons, List.map_take, List.map_drop]⟩
                    have := YC.out.mono (B' := w.heap.size + 1) (by have := HBw.out; omega)
                    rw [show (L.take P.length ++ (g, gq (f, r)) :: L.drop P.length).map valR = ((L.map valR).take P.length ++ [Value.slice (some ⟨g, 0, none⟩) 2 2]) ++ (L.map valR).drop P.length by simp [List.map_take, List.map_drop, valR, gq]]
                    exact this
                  go_roundw
                  case rel => exact ⟨r + 1, by omega, by go_num, HFn, HGn, Bn, Un⟩
                  case measure => simp [intOf]; omega
              · have hoc' : ¬ oc = P.length := fun h => hoc h.symm
                have HY : Hid (∀ w', Upd [] w6 w' → ∀ j u, ((L.map valR).drop P.length)[j]? = some u → w'.cell? ((⟨ob, P.length, none⟩ : Addr).add j) = some u) := fun w1 u => ((HV.out.kept0 Vt.out).kept0 u).newsk P.length
                go_wp2_with fail
                go_region_law (first
                  | (refine step_appVs rfl _ _ rfl w6.heap.size _ 0 [] ((L.map valR).take P.length) 0 P.length P.length rfl HTk.out (Nat.zero_add _) ⟨ob, 0, none⟩ _ rfl rfl HLa.out ((HVt.out.kept0 Ua.out).news P.length) HOT.out Ua.out.size (by have := HPl.out; omega) ?_
                     intro gA cA wA z1 z2 z3
                     have YA := Lib.hid z1
                     have UA := Lib.hid (Ua.out.after0 z2 (by simp))
                     clear z1 z2 z3)
                  | (refine step_appVs rfl _ _ rfl w6.heap.size _ 0 [] ((L.map valR).take P.length) 0 P.length P.length rfl HTk.out (Nat.zero_add _) ⟨ob, 0, none⟩ _ rfl rfl HLb.out ((HVt.out.kept0 Ub.out).news P.length) HOT.out Ub.out.size (by have := HPl.out; omega) ?_
                     intro gA cA wA z1 z2 z3
                     have YA := Lib.hid z1
                     have UA := Lib.hid (Ub.out.after0 z2 (by simp))
                     have HGc := Lib.hid (z2.cell (p := ⟨w6.heap.size + 1, 0, none⟩) (cell_last (w6.drew.alloc (.cells #[] 24)) (.slice (some ⟨g, 0, none⟩) 2 2) 24 (w6.heap.size + 1) (by simp)) (by simp))
                     clear z1 z2 z3)
                  | (refine step_appVs rfl _ _ rfl w6.heap.size _ 0 [] ((L.map valR).take P.length) 0 P.length P.length rfl HTk.out (Nat.zero_add _) ⟨ob, 0, none⟩ _ rfl rfl HLc.out ((HVt.out.kept0 Uc.out).news P.length) HOT.out Uc.out.size (by have := HPl.out; omega) ?_
                     intro gA cA wA z1 z2 z3
                     have YA := Lib.hid z1
                     have UA := Lib.hid (Uc.out.after0 z2 (by simp))
                     have HGc := Lib.hid (z2.cell (p := ⟨w6.heap.size, 0, none⟩) (((Upd.refl _).alloc (.cells #[] 24)).cell (cell_last w6.drew (.slice (some ⟨g, 0, none⟩) 2 2) 24 w6.heap.size rfl) (by simp)) (by simp))
                     clear z1 z2 z3)
                  | (refine step_appVs rfl _ _ rfl w6.heap.size _ _ ((L.map valR).take P.length) [.slice (some ⟨g, 0, none⟩) 2 2] P.length 1 (P.length + 1) HTk.out rfl rfl ⟨wA.heap.size, 0, none⟩ _ rfl rfl (YA.out.kept0 ((Upd.refl wA).alloc (.cells #[.slice (some ⟨g, 0, none⟩) 2 2] 24))) (one_news (cell_last wA _ _ _ rfl) rfl) HO1.out (UA.out.alloc _).size (by have := HPl.out; omega) ?_
                     intro gB cB wB z1 z2 z3
                     have YB := Lib.hid z1
                     have UB := Lib.hid ((UA.out.alloc (.cells #[.slice (some ⟨g, 0, none⟩) 2 2] 24)).after0 z2 (fun x hx => by rw [List.mem_singleton.1 hx]; exact ((World.ownsRow.lt (w := wA) YA.out) _ rfl).1))
                     clear z1 z2 z3)
                  | (refine step_appVs rfl _ _ rfl w6.heap.size _ _ ((L.map valR).take P.length) [.slice (some ⟨g, 0, none⟩) 2 2] P.length 1 (P.length + 1) HTk.out rfl rfl _ _ rfl rfl YA.out (one_news HGc.out rfl) HO1.out UA.out.size (by have := HPl.out; omega) ?_
                     intro gB cB wB z1 z2 z3
                     have YB := Lib.hid z1
                     have UB := Lib.hid (UA.out.after0 z2 (fun x hx => by rw [List.mem_singleton.1 hx]; exact ((World.ownsRow.lt (w := wA) YA.out) _ rfl).1))
                     clear z1 z2 z3)
                  | (refine step_appVs rfl _ _ rfl w6.heap.size _ _ ((L.map valR).take P.length ++ [.slice (some ⟨g, 0, none⟩) 2 2]) ((L.map valR).drop P.length) (P.length + 1) _ (P.length + 1) HTk1.out (by have := HDk.out; omega) (by omega) ⟨ob, P.length, none⟩ _ rfl rfl YB.out (HY.out _ UB.out) HOD.out UB.out.size (by have := HPl.out; omega) ?_
                     intro gC cC wC z1 z2 z3
                     have YC := Lib.hid z1
                     have UC := Lib.hid (UB.out.after0 z2 (fun x hx => by rw [List.mem_singleton.1 hx]; exact ((World.ownsRow.lt (w := wB) YB.out) _ rfl).1))
                     clear z1 z2 z3))
                all_goals
                  go_wp2_with fail
                  have Bn := Lib.hid (Bt.out.kept UC.out (by simp))
                  have Un := Lib.hid (Ut.out.then0 UC.out)
                  have HFn : Hid (∃ ob oc, (Value.slice (some ⟨gC, 0, none⟩) (P.length + 1) cC) = .slice (some ⟨ob, 0, none⟩) (rowG fs rs (ordG fs rs rs.length f) f (r + 1)).length oc) := ⟨gC, cC, by rw [← HNx.out, insR_length]⟩
                  have HGn : Hid (GS wC (w.heap.size + 1) (.slice (some ⟨gC, 0, none⟩) (P.length + 1) cC) (rowG fs rs (ordG fs rs rs.length f) f (r + 1))) := by
                    show GS _ _ _ _
                    rw [← HNx.out, ← HPI.out]
                    refine ⟨_, ⟨?_, HI6.out.kept0 UC.out⟩, by rw [List.map_append, List.map_cons, List.map_take, List.map_drop, HL.out, List.map_append, List.map_cons, List.map_take, List.map_drop]⟩
                    have := YC.out.mono (B' := w.heap.size + 1) (by have := HBw.out; omega)
                    rw [show (L.take P.length ++ (g, gq (f, r)) :: L.drop P.length).map valR = ((L.map valR).take P.length ++ [Value.slice (some ⟨g, 0, none⟩) 2 2]) ++ (L.map valR).drop P.length by simp [List.map_take, List.map_drop, valR, gq]]
                    exact this
                  go_roundw
                  case rel => exact ⟨r + 1, by omega, by go_num, HFn, HGn, Bn, Un⟩
                  case measure => simp [intOf]; omega
        · obtain rfl : r = rs.length := by omega
          obtain ⟨hb0, hb1, hb2⟩ := B0.out.cells
          go_wp2_with fail
          go_roundw
          case rel => exact ⟨f + 1, by omega, by go_num, HF, HG, B0, U1⟩
          case measure => simp [intOf]; omega
    · obtain rfl : f = fs.length := by omega
      obtain ⟨hb0, hb1, hb2⟩ := B0.out.cells
      go_wp2_with fail
      go_ret
      exact ⟨_, rfl, HG.out.mono (by omega), UW.out.then0 U1.out⟩
end Go.Proofs.Ytjnkckpebfafjaa
