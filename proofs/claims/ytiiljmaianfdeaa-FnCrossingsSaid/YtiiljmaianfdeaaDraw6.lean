/- The draws of chapter 6. -/
import Derived.Test.YtiiljmaianfdeaaDraw3
import Derived.Test.YtiiljmaianfdeaaLacP
namespace Go.Proofs.Ytiiljmaianfdeaa
open Go.RowKit
set_option linter.unusedVariables false
set_option linter.unusedSimpArgs false

def DrawNL (w : World) (g : Nat) (a : Option Addr) (c : Nat) (bs : List Int) (e : Ending) (w' : World) : Prop :=
  ∃ n v xs, e = .returned (.tuple #[.int .i64 n, v]) ∧ OwnI w' w.heap.size v xs ∧ ((0 ≤ n ∧ n ≤ 24) ∧ xs.length ≤ 30) ∧ DC w' g a c bs ∧ Upd [g] w w'
set_option maxRecDepth 20000 in
set_option maxHeartbeats 1600000 in
theorem l06Size_c (g : Nat) (a : Option Addr) (c : Nat) (bs : List Int) (w : World) (h : DC w g a c bs) : Calls Try.prog 82 #[.pointer (some ⟨g, 0, none⟩)] w (PickP w g a c bs [6, 8, 10, 12, 16, 18]) := by
  have D := Lib.hid h
  have HgB : Hid (∀ k, k ∈ [g] → k < w.heap.size) := fun k hk => by rw [List.mem_singleton.1 hk]; exact h.lt
  have U : Hid (Upd [g] w w) := (Upd.refl w).mono (by simp)
  clear h
  go_enter Try.func82, Try.ntmps82
  go_wp2_with fail
  refine (l01Pick_c g a c bs _ _ [6, 8, 10, 12, 16, 18] _ (D.out.kept0 ((Upd.refl _).alloc _)) (lit_ints _ [6, 8, 10, 12, 16, 18]) (fun ad e => by cases e; exact D.out.lt) (by simp) (by simp)).mono ?_
  rintro e wn ⟨x, rfl, hx, hd, hu⟩
  replace D := Lib.hid hd
  replace U := Lib.hid ((U.out.alloc _).then1 hu)
  clear hd hu
  go_wp2_with fail
  go_ret
  exact ⟨x, rfl, hx, D.out, U.out⟩
theorem swp_ok {n : Int} {xs : List Int} (h : lacB n xs = true) {k l : Int} (hk : 0 ≤ k ∧ (k = 0 ∨ k < n)) (hl : 0 ≤ l ∧ (l = 0 ∨ l < n)) : lacB n (swpL n xs k l) = true := by
  obtain ⟨h1, h2, -, -⟩ := lacB_t h
  have hb := flB_bd h1
  have e1 : swpB n k l = true := by simp only [swpB, Bool.and_eq_true]; exact ⟨inB_mk (by omega), inB_mk (by omega)⟩
  have : swpL n xs k l = swpF xs k.toNat l.toNat := by simp [swpL, h, e1]
  rw [this]
  exact swp_lac h (by omega) (by omega)
theorem usual_ok {n c : Int} (h : flB n = true) (hc : 0 ≤ c ∧ c ≤ n / 2 - 1) : lacB n (usualL n c) = true := by
  have : usualL n c = usualF n c n.toNat := by simp [usualL, h, inB_mk hc]
  rw [this]; exact usual_lac h hc
set_option maxRecDepth 20000 in
set_option maxHeartbeats 6400000 in
theorem l06Draw_c (g : Nat) (a : Option Addr) (c : Nat) (bs : List Int) (w : World) (h : DC w g a c bs) : Calls Try.prog 49 #[.pointer (some ⟨g, 0, none⟩)] w (DrawNL w g a c bs) := by
  have D := Lib.hid h
  have HgB : Hid (∀ k, k ∈ [g] → k < w.heap.size) := fun k hk => by rw [List.mem_singleton.1 hk]; exact h.lt
  have U : Hid (Upd [g] w w) := (Upd.refl w).mono (by simp)
  clear h
  go_enter Try.func49, Try.ntmps49
  go_wp2_with fail
  refine (l06Size_c g a c bs _ D.out).mono ?_
  rintro e wn ⟨n, rfl, hn, hd, hu⟩
  replace D := Lib.hid hd
  replace U := Lib.hid (U.out.then1 hu)
  clear hd hu
  have HF : Hid (flB n = true) := by
    show _ = _
    simp only [List.mem_cons, List.not_mem_nil, or_false] at hn
    unfold flB; exact decide_eq_true (by omega)
  have hnb : 6 ≤ n ∧ n ≤ 18 := by simp at hn; omega
  clear hn
  go_wp2_with fail
  refine (l01Next_c g a c bs _ _ D.out).mono ?_
  rintro e wn ⟨c0, rfl, hc0, hd, hu⟩
  replace D := Lib.hid hd
  replace U := Lib.hid (U.out.then1 hu)
  clear hd hu
  have HC0 : Hid (0 ≤ c0 ∧ c0 ≤ n / 2 - 1) := by
    have h2 : n.tdiv 2 = n / 2 := Int.tdiv_eq_ediv_of_nonneg (by omega)
    show _ ∧ _
    omega
  clear hc0
  go_wp2_with fail
  refine (sUsualLacing_c n c0 _).mono ?_
  rintro e w2 ⟨v, rfl, ho, hu⟩
  have O : Hid (OwnI w2 w.heap.size v (usualL n c0)) := ho.mono U.out.size
  have HLac := Lib.hid (usual_ok HF.out HC0.out)
  replace D := Lib.hid (D.out.kept0 hu)
  replace U := Lib.hid (U.out.then0 hu)
  clear ho hu HC0
  generalize usualE n c0 = E
  go_wp2_with fail
  refine (l01Next_c g a c bs _ _ D.out).mono ?_
  rintro e wn ⟨q, rfl, hq, hd, hu⟩
  replace D := Lib.hid hd
  replace U := Lib.hid (U.out.then1 hu)
  replace O := Lib.hid (O.out.kept hu HgB.out)
  clear hd hu
  have HL : Hid (∃ xs, OwnI wn w.heap.size v xs ∧ lacB n xs = true) := ⟨_, O.out, HLac.out⟩
  clear O HLac
  obtain ⟨q0, hq0⟩ : ∃ N : Nat, q = N := ⟨q.toNat, by omega⟩
  subst hq0
  have hq2 : q0 ≤ 4 := by omega
  clear hq
  go_wp2_with fail
  go_loopw [5, 7] (fun v i wr => ∃ m : Nat, m ≤ 4 ∧ i = .int .i64 m ∧ Hid (∃ xs, OwnI wr w.heap.size v xs ∧ lacB n xs = true) ∧ Hid (DC wr g a c bs) ∧ Hid (Upd [g] w wr)) (fun _ i _ => (intOf i).toNat)
  case atStart => exact ⟨q0, hq2, rfl, HL, D, U⟩
  case round =>
    clear HL D U hq2
    obtain ⟨m, hm, rfl, HL, D, U⟩ := hrel
    obtain ⟨xs, ho, hlac⟩ := HL.out
    have O := Lib.hid ho
    have HLac := Lib.hid hlac
    clear ho hlac HL
    obtain ⟨pv, dv, ev⟩ := O.out.form
    subst ev
    by_cases hm0 : 2 < m
    · go_wp2_with fail
      refine (l01Next_c g a c bs _ _ D.out).mono ?_
      rintro e wn ⟨k, rfl, hk, hd, hu⟩
      replace D := Lib.hid hd
      replace U := Lib.hid (U.out.then1 hu)
      replace O := Lib.hid (O.out.kept hu HgB.out)
      clear hd hu
      go_wp2_with fail
      refine (l01Next_c g a c bs _ _ D.out).mono ?_
      rintro e wn ⟨l, rfl, hl, hd, hu⟩
      replace D := Lib.hid hd
      replace U := Lib.hid (U.out.then1 hu)
      replace O := Lib.hid (O.out.kept hu HgB.out)
      clear hd hu
      go_wp2_with fail
      refine (sSwapSpokes_c n pv dv xs k l _ O.out.ints (by have := lac_bd HLac.out; omega) O.out.cap.1).mono ?_
      rintro e w2 ⟨v, rfl, ho, hu⟩
      have HL2 : Hid (∃ ys, OwnI w2 w.heap.size v ys ∧ lacB n ys = true) := ⟨_, ho.mono U.out.size, swp_ok HLac.out hk hl⟩
      replace D := Lib.hid (D.out.kept0 hu)
      replace U := Lib.hid (U.out.then0 hu)
      clear ho hu O
      go_wp2_with fail
      go_roundw
      case rel => exact ⟨m - 1, by omega, by go_num, HL2, D, U⟩
      case measure => simp [intOf]; omega
    · have hbx : 6 ≤ xs.length ∧ xs.length ≤ 18 := by have := (lac_bd HLac.out).1; omega
      clear HLac
      go_wp2_with fail
      refine (l01Next_c g a c bs _ _ D.out).mono ?_
      rintro e wn ⟨q, rfl, hq, hd, hu⟩
      replace D := Lib.hid hd
      replace U := Lib.hid (U.out.then1 hu)
      replace O := Lib.hid (O.out.kept hu HgB.out)
      clear hd hu
      by_cases k0 : q = 0
      · subst k0
        obtain ⟨ob, oc, ev, hob, hob2⟩ := O.out.row (by omega)
        cases ev
        have hc1 := O.out.cell (k := 1) (List.getElem?_eq_getElem (by omega))
        have hc0 := O.out.cell (k := 0) (List.getElem?_eq_getElem (by omega))
        have hf := O.out.free 0
        generalize xs[1] = z at hc1
        have O3 := Lib.hid (O.out.set 0 z (by omega))
        have V : Upd [ob] wn (wn.setCell ⟨ob, 0, none⟩ (.int .i64 z)) := ((Upd.refl wn).mono (by simp)).setCell _ (.inl (by simp))
        have D3 := Lib.hid (D.out.kept V (fun k hk => by rw [List.mem_singleton.1 hk]; have := HgB.out g (by simp); omega))
        have U3 := Lib.hid (U.out.afterB V (fun k hk => by rw [List.mem_singleton.1 hk]; exact hob))
        clear V
        go_wp2_with fail
        go_ret2
        exact ⟨n, _, _, rfl, O3.out, by simp; omega, D3.out, U3.out⟩
      · by_cases k1 : q = 1
        · subst k1
          go_wp2_with (at_builtin; refine wpList_appB rfl _ _ rfl _ _ _ rfl rfl O.out U.out.size (by omega) ?_; intro v' w9 z1 z2; have Z1 := Lib.hid z1; have DZ := Lib.hid (D.out.kept z2 (fun k hk => by have := (O.out.low k (Option.mem_toList.1 hk)); have := HgB.out g (by simp); omega)); have UZ := Lib.hid (U.out.afterB z2 (fun k hk => O.out.low k (Option.mem_toList.1 hk))); clear z1 z2)
          go_ret2
          exact ⟨n, _, _, rfl, Z1.out, by simp; omega, DZ.out, UZ.out⟩
        · by_cases k2 : q = 2
          · subst k2
            go_wp2_with fail
            refine (l01Pick_c g a c bs _ _ [9, 14, 24, 0] _ (D.out.kept0 ((Upd.refl _).alloc _)) (lit_ints _ [9, 14, 24, 0]) (fun ad e => by cases e; exact D.out.lt) (by simp) (by simp)).mono ?_
            rintro e wn ⟨z, rfl, hz, hd, hu⟩
            replace D := Lib.hid hd
            replace U := Lib.hid ((U.out.alloc _).then1 hu)
            replace O := Lib.hid ((O.out.kept0 ((Upd.refl _).alloc _)).kept hu HgB.out)
            clear hd hu
            go_wp2_with fail
            go_ret2
            exact ⟨z, _, _, rfl, O.out, by simp at hz; omega, D.out, U.out⟩
          · go_wp2_with fail
            go_ret2
            exact ⟨n, _, _, rfl, O.out, by omega, D.out, U.out⟩
end Go.Proofs.Ytiiljmaianfdeaa
