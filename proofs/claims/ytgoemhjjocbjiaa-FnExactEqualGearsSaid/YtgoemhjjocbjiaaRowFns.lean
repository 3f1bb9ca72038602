/- The laws' own helpers over slices of slices; the marks of a train. -/
import Derived.Test.YtgoemhjjocbjiaaSlices
import Derived.Test.YtgoemhjjocbjiaaTrain
namespace Go.Proofs.Ytgoemhjjocbjiaa
open Go.RowKit
set_option linter.unusedVariables false
set_option linter.unusedSimpArgs false

set_option maxHeartbeats 1600000 in
theorem eqInt64SS_c (a b : Option Addr) (c d : Nat) (L : List (List Int)) (w : World) (h : RowsAt w a L) (h2 : RowsAt w b L) (hl : L.length ≤ 1000) (hr : ∀ r, r ∈ L → r.length ≤ 1000) :
    Calls Try.prog 36 #[.slice a L.length c, .slice b L.length d] w (RetT w) := by
  have H : Hid (∀ w', Upd [] w w' → RowsAt w' a L ∧ RowsAt w' b L) := fun w' u => ⟨h.kept0 u, h2.kept0 u⟩
  clear h h2
  have HR := Lib.hid hr
  clear hr
  go_enter Try.func36, Try.ntmps36
  go_wp2
  go_loopw [5] (fun i wr => ∃ k : Nat, k ≤ L.length ∧ i = .int .i64 k ∧ Hid (Upd [] w wr)) (fun i _ => L.length - (intOf i).toNat)
  case atStart => exact ⟨0, by omega, rfl, Upd.refl w⟩
  case round =>
    obtain ⟨k, hk, rfl, HU⟩ := hrel
    obtain ⟨w4, ew4⟩ : ∃ x : World, x = wr := ⟨_, rfl⟩
    subst ew4
    by_cases hlt : k < L.length
    · obtain ⟨ab, ao, r, a', c', rfl, hc, HI, hx⟩ := (H.out _ HU.out).1.get hlt
      obtain ⟨bb, bo, r2, b', d', rfl, hd, HJ, hy⟩ := (H.out _ HU.out).2.get hlt
      obtain rfl : r = r2 := by have := hx.out; rw [hy.out] at this; simpa using this.symm
      have hrl := HR.out r (mem_of_get hx.out)
      have i1 : (0 : Int) ≤ (k : Int) := by omega
      have i2 : (k : Int) < (L.length : Int) := by omega
      go_wp2
      refine wp_region_still_tail 8 (by kernel_rfl) (by kernel_rfl) ?_
      simp only [List.take_succ_cons, List.take_zero, List.drop_succ_cons, List.drop_zero]
      repeat still_step
      refine wpStill_nil ?_
      clear hc hd i1 i2
      change wpList _ _ _ _ _ w4.drew
      have U5 := Lib.hid (HU.out.drew)
      replace HI := Lib.hid (HI.out.kept0 (Upd.refl w4).drew)
      replace HJ := Lib.hid (HJ.out.kept0 (Upd.refl w4).drew)
      generalize w4.drew = w5 at U5 HI HJ ⊢
      go_wp2_with fail
      refine (eqInt64S_c _ _ _ _ r _ HI.out HJ.out (by omega)).mono ?_
      rintro e w6 ⟨rfl, u1⟩
      have U6 := Lib.hid (U5.out.then0 u1)
      clear u1 U5 HI HJ
      go_wp2_with fail
      go_roundw
      case rel => exact ⟨k + 1, by omega, by go_num, U6⟩
      case measure => simp [intOf]; omega
    · obtain rfl : k = L.length := by omega
      go_wp2
      go_ret
      exact ⟨rfl, HU.out⟩
theorem markE_append (k : Int) (a b : List (Nat × Nat × List Int)) : markE k (a ++ b) = markE k a ++ markE (k + cells2 (a.map (·.2.2))) b := by
  induction a generalizing k with
  | nil => simp [markE, cells2]
  | cons e t ih => simp only [List.cons_append, markE, List.map_cons, cells2, ih, Int.natCast_add, Int.add_assoc]
theorem markE_rows (k : Int) (a : List (Nat × Nat × List Int)) : (markE k a).map (·.2.2) = mrows k (a.map (·.2.2)) := by
  induction a generalizing k with
  | nil => rfl
  | cons e t ih => simp only [markE, List.map_cons, mrows, ih]
theorem markE_fst (k : Int) (a : List (Nat × Nat × List Int)) : (markE k a).map (·.1) = a.map (·.1) := by
  induction a generalizing k with
  | nil => rfl
  | cons e t ih => simp only [markE, List.map_cons, ih]
theorem markE_val (k : Int) (a : List (Nat × Nat × List Int)) : (markE k a).map valR = a.map valR := by
  induction a generalizing k with
  | nil => rfl
  | cons e t ih => simp only [markE, List.map_cons, ih, valR, marks_length]
theorem Inn.setAt {w w' : World} {B : Nat} {A D : List (Nat × Nat × List Int)} {x : Nat × Nat × List Int} {ys : List Int} (h : Inn w B (A ++ x :: D)) (u : Upd [x.1] w w') (ho : OwnI w' B (valR x) ys) (hl : ys.length = x.2.2.length) :
    Inn w' B (A ++ (x.1, x.2.1, ys) :: D) := by
  have hn : ∀ y, y ∈ A ∨ y ∈ D → y.1 ≠ x.1 := by
    have := h.nodup
    rw [List.map_append, List.map_cons, List.nodup_append] at this
    obtain ⟨n1, n2, n3⟩ := this
    intro y hy
    rcases hy with hy | hy
    · exact n3 y.1 (List.mem_map_of_mem hy) x.1 (by simp)
    · intro e
      exact (List.nodup_cons.1 n2).1 (by rw [← e]; exact List.mem_map_of_mem hy)
  refine ⟨fun y hy => ?_, ?_⟩
  · rcases List.mem_append.1 hy with hy | hy
    · exact (h.rows y (List.mem_append.2 (.inl hy))).keptNe u fun k hk => by
        simp only [valR, Value.ownBlock, Option.some.injEq] at hk
        rw [← hk]; simpa using hn y (.inl hy)
    · rcases List.mem_cons.1 hy with rfl | hy
      · show OwnI w' B (valR (x.1, x.2.1, ys)) ys
        have : valR (x.1, x.2.1, ys) = valR x := by simp only [valR, hl]
        rw [this]; exact ho
      · exact (h.rows y (List.mem_append.2 (.inr (List.mem_cons.2 (.inr hy))))).keptNe u fun k hk => by
          simp only [valR, Value.ownBlock, Option.some.injEq] at hk
          rw [← hk]; simpa using hn y (.inr hy)
  · have := h.nodup
    rw [List.map_append, List.map_cons] at this ⊢
    exact this
/-- Rows have been marked; nothing else has turned. -/
def MarkedR (w : World) (B : Nat) (v : Value) (k : Int) (L : List (Nat × Nat × List Int)) (e : Ending) (w' : World) : Prop :=
  e = .returned (.int .i64 (k + cells2 (L.map (·.2.2)))) ∧ OwnR w' B v (markE k L) ∧ Upd (L.map (·.1)) w w'
set_option maxHeartbeats 3200000 in
theorem markInt64SS_c (v : Value) (B : Nat) (k0 : Int) (L : List (Nat × Nat × List Int)) (w : World) (h : OwnR w B v L) (hl : L.length ≤ 1000) (hr : ∀ x, x ∈ L → x.2.2.length ≤ 1000) (hk : 0 ≤ k0 ∧ k0 ≤ 1000) :
    Calls Try.prog 37 #[v, .int .i64 k0] w (MarkedR w B v k0 L) := by
  obtain ⟨a, c, rfl, -, hnil⟩ := h.1.form
  have hln : (L.map valR).length = L.length := by simp
  rw [hln] at h hnil ⊢
  have HR := Lib.hid hr
  clear hr
  have HC : Hid (∀ j, cells2 ((L.map (·.2.2)).take j) ≤ 1000000) := by
    intro j
    have h1 : ∀ R : List (List Int), (∀ r, r ∈ R → r.length ≤ 1000) → cells2 R ≤ 1000 * R.length := by
      intro R hR
      induction R with
      | nil => simp [cells2]
      | cons r t ih =>
        have := hR r (by simp)
        have := ih fun x hx => hR x (by simp [hx])
        simp only [cells2, List.length_cons]; omega
    have h2 := h1 ((L.map (·.2.2)).take j) fun r hr => by
      obtain ⟨x, hx, rfl⟩ := List.mem_map.1 (List.mem_of_mem_take hr)
      exact HR.out x hx
    have h3 : ((L.map (·.2.2)).take j).length ≤ L.length := by simp; omega
    omega
  have HO : Hid (OwnR w B (.slice a L.length c) (markE k0 (L.take 0) ++ L.drop 0)) := h
  have HU : Hid (Upd (L.map (·.1)) w w) := (Upd.refl w).mono (by simp)
  clear h
  go_enter Try.func37, Try.ntmps37
  go_wp2
  go_loopw [1, 5] (fun m i wr => ∃ j : Nat, j ≤ L.length ∧ m = .int .i64 (k0 + cells2 ((L.map (·.2.2)).take j)) ∧ i = .int .i64 j ∧ Hid (OwnR wr B (.slice a L.length c) (markE k0 (L.take j) ++ L.drop j)) ∧ Hid (Upd (L.map (·.1)) w wr))
    (fun _ i _ => L.length - (intOf i).toNat)
  case atStart => exact ⟨0, by omega, by simp [cells2], rfl, HO, HU⟩
  case round =>
    clear HO HU
    obtain ⟨j, hj, rfl, rfl, HO, HU⟩ := hrel
    by_cases hlt : j < L.length
    · obtain ⟨x, hx⟩ : ∃ x, L[j]? = some x := ⟨_, List.getElem?_eq_getElem hlt⟩
      have hdr : L.drop j = x :: L.drop (j + 1) := by
        rw [List.drop_eq_getElem_cons hlt]
        rw [List.getElem?_eq_getElem hlt] at hx
        simp only [Option.some.injEq] at hx
        rw [hx]
      have hxl := HR.out x (mem_of_get hx)
      have hcj := HC.out j
      obtain ⟨ho, hi⟩ := HO.out
      rw [hdr] at ho hi
      have hxo := hi.rows x (by simp)
      have hlen2 : ((markE k0 (L.take j) ++ x :: L.drop (j + 1)).map valR).length = L.length := by
        rw [List.map_append, markE_val]; simp; omega
      have hpos : 0 < ((markE k0 (L.take j) ++ x :: L.drop (j + 1)).map valR).length := by rw [hlen2]; omega
      obtain ⟨g, c2, ev, hg1, hg2⟩ := ho.row hpos
      rw [hlen2] at ev
      cases ev
      have hvl : (((markE k0 (L.take j) ++ x :: L.drop (j + 1)).map valR))[j]? = some (valR x) := by
        have e1 : ((markE k0 (L.take j)).map valR).length = j := by rw [markE_val]; simp; omega
        rw [List.map_append, List.getElem?_append_right (by omega), e1, Nat.sub_self]; rfl
      have hc := ho.cell hvl
      simp only [valR] at hc
      have HX := Lib.hid (show _ ∧ _ ∧ _ from ⟨ho, hi, hxo⟩)
      have HD := Lib.hid hdr
      have HXX := Lib.hid hx
      clear ho hi hxo hdr hvl hpos hx HO hlen2
      go_wp2_with fail
      refine (markInt64S_c _ B _ x.2.2 _ HX.out.2.2 (by omega) (by omega)).mono ?_
      rintro e w6 ⟨rfl, o6, u6⟩
      have hne := HX.out.1.ne (g := x.1) (n := x.2.2.length) (c := x.2.1) (xs := x.2.2) HX.out.2.2
      have HO6 : Hid (OwnR w6 B (.slice (some ⟨g, 0, none⟩) L.length c) (markE k0 (L.take (j + 1)) ++ L.drop (j + 1))) := by
        have e1 : markE k0 (L.take (j + 1)) ++ L.drop (j + 1) = markE k0 (L.take j) ++ (x.1, x.2.1, marks (k0 + cells2 ((L.map (·.2.2)).take j)) x.2.2.length) :: L.drop (j + 1) := by
          rw [take_step HXX.out, markE_append, List.append_assoc]
          simp only [markE, List.map_take, List.cons_append, List.nil_append]
        show OwnR _ _ _ _
        rw [e1]
        refine ⟨?_, HX.out.2.1.setAt u6 o6 (marks_length _ _)⟩
        have := HX.out.1.keptNe u6 fun k hk => by
          intro hm
          rw [hk] at hne
          simp only [valR, Value.ownBlock, Option.toList, List.mem_singleton] at hm
          exact hne (by rw [hm])
        simpa [valR, marks_length] using this
      have HU6 : Hid (Upd (L.map (·.1)) w w6) := (HU.out).trans u6 fun y hy => .inl (by
        simp only [valR, Value.ownBlock, Option.toList, List.mem_singleton] at hy
        rw [hy]; exact List.mem_map_of_mem (mem_of_get HXX.out))
      have HN : Hid (k0 + (cells2 ((L.map (·.2.2)).take j) : Int) + (x.2.2.length : Int) = k0 + (cells2 ((L.map (·.2.2)).take (j + 1)) : Int)) := by
        show _ = _
        rw [cells2_take (r := x.2.2) (by rw [List.getElem?_map, HXX.out]; rfl)]; omega
      clear o6 u6 hne hc
      go_wp2_with fail
      go_roundw
      case rel => exact ⟨j + 1, by omega, by rw [← HN.out], by go_num, HO6, HU6⟩
      case measure => simp [intOf]; omega
    · obtain rfl : j = L.length := by omega
      have HN : Hid ((L.map (·.2.2)).take L.length = L.map (·.2.2)) := List.take_of_length_le (by simp)
      have HO2 := HO.out
      rw [List.take_length, List.drop_length, List.append_nil] at HO2
      rw [HN.out]
      have HO3 := Lib.hid HO2
      clear HO2 HO
      go_wp2
      go_ret
      exact ⟨rfl, HO3.out, HU.out⟩
set_option maxHeartbeats 1600000 in
theorem heldInt64SS_c (a : Option Addr) (c : Nat) (k0 : Int) (R : List (List Int)) (w : World) (h : RowsAt w a (mrows k0 R)) (hl : R.length ≤ 1000) (hr : ∀ r, r ∈ R → r.length ≤ 1000) (hk : 0 ≤ k0 ∧ k0 ≤ 1000) :
    Calls Try.prog 38 #[.slice a R.length c, .int .i64 k0] w fun e w' => e = .returned (.int .i64 (k0 + cells2 R)) ∧ w = w' := by
  have H := Lib.hid h; clear h
  have HR := Lib.hid hr
  clear hr
  have HC : Hid (∀ j, cells2 (R.take j) ≤ 1000000) := by
    intro j
    have h1 : ∀ R : List (List Int), (∀ r, r ∈ R → r.length ≤ 1000) → cells2 R ≤ 1000 * R.length := by
      intro R hR
      induction R with
      | nil => simp [cells2]
      | cons r t ih =>
        have := hR r (by simp)
        have := ih fun x hx => hR x (by simp [hx])
        simp only [cells2, List.length_cons]; omega
    have h2 := h1 (R.take j) fun r hr => HR.out r (List.mem_of_mem_take hr)
    have h3 : (R.take j).length ≤ R.length := by simp; omega
    omega
  go_enter Try.func38, Try.ntmps38
  go_wp2
  go_loop [1, 5] (fun m i => ∃ j : Nat, j ≤ R.length ∧ m = .int .i64 (k0 + cells2 (R.take j)) ∧ i = .int .i64 j) (fun _ i => R.length - (intOf i).toNat)
  case atStart => exact ⟨0, by omega, by simp [cells2], rfl⟩
  case round =>
    obtain ⟨j, hj, rfl, rfl⟩ := hrel
    by_cases hlt : j < R.length
    · obtain ⟨x, hx⟩ : ∃ x, R[j]? = some x := ⟨_, List.getElem?_eq_getElem hlt⟩
      have hm := mrows_get hx k0
      obtain ⟨ab, ao, r, a', c', rfl, hc, HI, hx2⟩ := H.out.get (k := j) (by rw [mrows_length]; exact hlt)
      have hxl := HR.out x (mem_of_get hx)
      have hcj := HC.out j
      have er : r = marks (k0 + cells2 (R.take j)) x.length := by have := hx2.out; rw [hm] at this; simpa using this.symm
      subst er
      rw [marks_length] at hc
      have HN : Hid (k0 + (cells2 (R.take j) : Int) + (x.length : Int) = k0 + (cells2 (R.take (j + 1)) : Int)) := by
        show _ = _
        rw [cells2_take hx]; omega
      clear hm hx hx2
      go_wp2_with fail
      refine (heldInt64S_c _ _ x.length _ _ HI.out (by omega) (by omega)).mono ?_
      rintro e w' ⟨rfl, rfl⟩
      go_wp2_with fail
      go_round
      case rel => exact ⟨j + 1, by omega, by rw [← HN.out], by go_num⟩
      case measure => simp [intOf]; omega
    · obtain rfl : j = R.length := by omega
      have HN : Hid (R.take R.length = R) := List.take_length
      rw [HN.out]
      go_wp2
      go_ret
      exact ⟨rfl, rfl⟩
set_option maxHeartbeats 1600000 in
theorem markTrain_c (v1 v2 : Value) (B : Nat) (fs rs : List Int) (n : Int) (w : World) (h1 : OwnI w B v1 fs) (h2 : OwnI w B v2 rs) (hap : ∀ k k', v1.ownBlock = some k → v2.ownBlock = some k' → k < k') (hl1 : fs.length ≤ 1048576) (hl2 : rs.length ≤ 1048576) :
    Calls Try.prog 31 #[.agg #[v1, v2, .int .i64 n], .int .i64 1] w fun e w' => e = .returned (.int .i64 (1 + fs.length + rs.length)) ∧ Upd (v1.ownBlock.toList ++ v2.ownBlock.toList) w w' := by
  have U0 := Lib.hid ((Upd.refl w).alloc (.cells #[v1, v2, .int .i64 n] 27))
  have B0 := Lib.hid (Box.new w v1 v2 (.int .i64 n) 27)
  have L1 := Lib.hid (World.ownsRow.lt (w := w) h1)
  have HA := Lib.hid hap
  have O1 := Lib.hid (h1.kept0 U0.out)
  have O2 := Lib.hid (h2.kept0 U0.out)
  obtain ⟨p1, d1, rfl, -, -⟩ := h1.intsAt
  obtain ⟨p2, d2, rfl, -, -⟩ := h2.intsAt
  clear h1 h2 hap
  obtain ⟨hb0, hb1, hb2⟩ := B0.out.cells
  go_enter Try.func31, Try.ntmps31
  go_wp2_with fail
  refine (markInt64S_c _ B 1 fs _ O1.out hl1 (by omega)).mono ?_
  rintro e w1 ⟨rfl, o1, u1⟩
  have B1 := Lib.hid (B0.out.kept u1 (fun hm => by have := (L1.out _ (Option.mem_toList.1 hm)).2; omega))
  have O3 := Lib.hid (O2.out.keptNe u1 fun k hk hm => by have := HA.out _ _ (Option.mem_toList.1 hm) hk; omega)
  have U1 : Hid (Upd ((Value.slice p1 fs.length d1).ownBlock.toList ++ (Value.slice p2 rs.length d2).ownBlock.toList) w w1) := (U0.out.mono (by simp)).trans u1 fun x hx => .inl (List.mem_append.2 (.inl hx))
  clear o1 u1 O1 O2 B0 U0 hb0 hb1 hb2
  obtain ⟨hb0, hb1, hb2⟩ := B1.out.cells
  go_wp2_with fail
  refine (markInt64S_c _ B _ rs _ O3.out hl2 (by omega)).mono ?_
  rintro e w2 ⟨rfl, o1, u1⟩
  have U2 : Hid (Upd ((Value.slice p1 fs.length d1).ownBlock.toList ++ (Value.slice p2 rs.length d2).ownBlock.toList) w w2) := (U1.out).trans u1 fun x hx => .inl (List.mem_append.2 (.inr hx))
  clear o1 u1 U1
  go_wp2_with fail
  go_ret
  exact ⟨rfl, U2.out⟩
end Go.Proofs.Ytgoemhjjocbjiaa
