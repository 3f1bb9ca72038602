/- The draws of chapter 7, on. -/
import Derived.Test.YtdjdddepplaagaaDraw7
namespace Go.Proofs.Ytdjdddepplaagaa
open Go.RowKit
set_option linter.unusedVariables false
set_option linter.unusedSimpArgs false

set_option maxRecDepth 20000 in
set_option maxHeartbeats 6400000 in
theorem l07Stiff_c (g : Nat) (a : Option Addr) (c : Nat) (bs : List Int) (w : World) (h : DC w g a c bs) : Calls Try.prog 105 #[.pointer (some ⟨g, 0, none⟩)] w (DrawL 1 60 w g a c bs) := by
  have D := Lib.hid h
  have HgB : Hid (∀ k, k ∈ [g] → k < w.heap.size) := fun k hk => by rw [List.mem_singleton.1 hk]; exact h.lt
  have U : Hid (Upd [g] w w) := (Upd.refl w).mono (by simp)
  clear h
  go_enter Try.func105, Try.ntmps105
  go_wp2_with fail
  refine (l01Next_c g a c bs _ _ D.out).mono ?_
  rintro e wn ⟨b, rfl, hb, hd, hu⟩
  replace D := Lib.hid hd
  replace U := Lib.hid (U.out.then1 hu)
  clear hd hu
  have O : Hid (OwnI (wn.alloc (.cells #[.int .i64 (20 + b)] 2)) w.heap.size (.slice (some ⟨wn.heap.size, 0, none⟩) 1 1) [20 + b]) := lit_own U.out.size [20 + b] (by simp)
  replace D := Lib.hid (D.out.kept0 ((Upd.refl wn).alloc (.cells #[.int .i64 (20 + b)] 2)))
  replace U := Lib.hid (U.out.alloc (.cells #[.int .i64 (20 + b)] 2))
  go_wp2_with fail
  obtain ⟨o0, ho0⟩ : ∃ k, wn.heap.size = k := ⟨_, rfl⟩
  generalize wn.alloc (.cells #[.int .i64 (20 + b)] 2) = wm at D U O ⊢
  rw [ho0] at O ⊢
  refine (l01Next_c g a c bs _ _ D.out).mono ?_
  rintro e wn ⟨n, rfl, hn, hd, hu⟩
  replace D := Lib.hid hd
  replace U := Lib.hid (U.out.then1 hu)
  replace O := Lib.hid (O.out.kept hu HgB.out)
  clear hd hu
  obtain ⟨N, hN⟩ : ∃ N : Nat, n = N := ⟨n.toNat, by omega⟩
  subst hN
  have hN2 : N ≤ 4 := by omega
  clear hn
  have O2 : Hid (∃ xs, OwnI wn w.heap.size (.slice (some ⟨o0, 0, none⟩) 1 1) xs ∧ xs.length + N = N + 1) := ⟨[20 + b], O.out, by simp; omega⟩
  clear O
  go_wp2_with fail
  go_loopw [3, 4] (fun v i wr => ∃ m : Nat, m ≤ N ∧ i = .int .i64 m ∧ Hid (∃ xs, OwnI wr w.heap.size v xs ∧ xs.length + m = N + 1) ∧ Hid (DC wr g a c bs) ∧ Hid (Upd [g] w wr)) (fun _ i _ => (intOf i).toNat)
  case atStart => exact ⟨N, Nat.le_refl _, rfl, O2, D, U⟩
  case round =>
    clear O2 D U
    obtain ⟨m, hm, rfl, O2, D, U⟩ := hrel
    obtain ⟨xs, ho, hl⟩ := O2.out
    have O := Lib.hid ho
    have HL := Lib.hid hl
    clear ho hl O2
    by_cases hm0 : 0 < m
    · go_wp2_with fail
      refine (l01Next_c g a c bs _ _ D.out).mono ?_
      rintro e wn ⟨y, rfl, hy, hd, hu⟩
      replace D := Lib.hid hd
      replace U := Lib.hid (U.out.then1 hu)
      replace O := Lib.hid (O.out.kept hu HgB.out)
      clear hd hu
      go_wp2_with (at_builtin; refine wpList_appB rfl _ _ rfl _ _ _ rfl rfl O.out U.out.size (by (have := HL.out; omega)) ?_; intro v' w9 z1 z2; have Z1 := Lib.hid z1; have DZ := Lib.hid (D.out.kept z2 (fun k hk => by have := (O.out.low k (Option.mem_toList.1 hk)); have := HgB.out g (by simp); omega)); have UZ := Lib.hid (U.out.afterB z2 (fun k hk => O.out.low k (Option.mem_toList.1 hk))); clear z1 z2)
      have HZ : Hid (∃ xs, OwnI w9 w.heap.size v' xs ∧ xs.length + (m - 1) = N + 1) := ⟨_, Z1.out, by have := HL.out; simp; omega⟩
      go_roundw
      case rel => exact ⟨m - 1, by omega, by go_num, HZ, DZ, UZ⟩
      case measure => simp [intOf]; omega
    · obtain rfl : m = 0 := by omega
      have hxl : 1 ≤ xs.length ∧ xs.length ≤ 5 := by have := HL.out; omega
      clear HL hm0
      go_wp2_with fail
      refine (l01Next_c g a c bs _ _ D.out).mono ?_
      rintro e wn ⟨k, rfl, hk, hd, hu⟩
      replace D := Lib.hid hd
      replace U := Lib.hid (U.out.then1 hu)
      replace O := Lib.hid (O.out.kept hu HgB.out)
      clear hd hu
      by_cases k0 : k = 0
      · subst k0
        obtain ⟨ob, oc, ev, hob, hob2⟩ := O.out.row (by omega)
        subst ev
        go_wp2_with fail
        refine (l01Pick_c g a c bs _ _ [0, 1, 200, 201] _ (D.out.kept0 ((Upd.refl _).alloc _)) (lit_ints _ [0, 1, 200, 201]) (fun ad e => by cases e; exact D.out.lt) (by simp) (by simp)).mono ?_
        rintro e wn ⟨z, rfl, hz, hd, hu⟩
        replace D := Lib.hid hd
        replace U := Lib.hid ((U.out.alloc _).then1 hu)
        replace O := Lib.hid ((O.out.kept0 ((Upd.refl _).alloc _)).kept hu HgB.out)
        clear hd hu
        have hc := O.out.cell (k := 0) (List.getElem?_eq_getElem (by omega))
        have hf := O.out.free 0
        have O3 := Lib.hid (O.out.set 0 z (by omega))
        have V : Upd [ob] wn (wn.setCell ⟨ob, 0, none⟩ (.int .i64 z)) := ((Upd.refl wn).mono (by simp)).setCell _ (.inl (by simp))
        have D3 := Lib.hid (D.out.kept V (fun k hk => by rw [List.mem_singleton.1 hk]; have := HgB.out g (by simp); omega))
        have U3 := Lib.hid (U.out.afterB V (fun k hk => by rw [List.mem_singleton.1 hk]; exact hob))
        clear V
        go_wp2_with fail
        go_ret
        exact ⟨_, _, rfl, O3.out, by simp; omega, D3.out, U3.out⟩
      · by_cases k1 : k = 1
        · subst k1
          go_wp2_with (at_builtin; refine wpList_appB rfl _ _ rfl _ _ _ rfl rfl O.out U.out.size (by omega) ?_; intro v' w9 z1 z2; have Z1 := Lib.hid z1; have DZ := Lib.hid (D.out.kept z2 (fun k hk => by have := (O.out.low k (Option.mem_toList.1 hk)); have := HgB.out g (by simp); omega)); have UZ := Lib.hid (U.out.afterB z2 (fun k hk => O.out.low k (Option.mem_toList.1 hk))); clear z1 z2)
          go_ret
          exact ⟨_, _, rfl, Z1.out, by simp; omega, DZ.out, UZ.out⟩
        · go_wp2_with fail
          go_ret
          exact ⟨_, _, rfl, O.out, by omega, D.out, U.out⟩
/-- Two lists and a number have been drawn. -/
def DrawLLI (w : World) (e : Ending) (w' : World) : Prop :=
  ∃ p xs d q ys f m, e = .returned (.tuple #[.slice p xs.length d, .slice q ys.length f, .int .i64 m]) ∧ IntsAt w' p xs ∧ IntsAt w' q ys ∧ (xs.length ≤ 100 ∧ ys.length ≤ 100) ∧ (xs.length ≤ d ∧ ys.length ≤ f) ∧ Upd [] w w'
def DrawLI (w : World) (e : Ending) (w' : World) : Prop :=
  ∃ p xs d m, e = .returned (.tuple #[.slice p xs.length d, .int .i64 m]) ∧ IntsAt w' p xs ∧ xs.length ≤ 100 ∧ xs.length ≤ d ∧ Upd [] w w'
def DrawL1 (w : World) (e : Ending) (w' : World) : Prop := ∃ p xs d, e = .returned (.slice p xs.length d) ∧ IntsAt w' p xs ∧ xs.length ≤ 100 ∧ xs.length ≤ d ∧ Upd [] w w'
def DrawLLL (w : World) (e : Ending) (w' : World) : Prop :=
  ∃ p xs d q ys f r zs h, e = .returned (.tuple #[.slice p xs.length d, .slice q ys.length f, .slice r zs.length h]) ∧ IntsAt w' p xs ∧ IntsAt w' q ys ∧ IntsAt w' r zs ∧ (xs.length ≤ 100 ∧ ys.length ≤ 100 ∧ zs.length ≤ 100) ∧ (xs.length ≤ d ∧ ys.length ≤ f ∧ zs.length ≤ h) ∧ Upd [] w w'
set_option maxRecDepth 20000 in
set_option maxHeartbeats 3200000 in
theorem DrawTurnsForMean_c (a : Option Addr) (c : Nat) (bs : List Int) (w : World) (hc : U8At w a bs) (hl : bs.length ≤ 4096) : Calls Try.prog 38 #[.slice a bs.length c] w (DrawLLI w) := by
  have HC := Lib.hid hc
  clear hc
  go_enter Try.func38, Try.ntmps38
  go_wp2_with fail
  refine (l01From_c a c bs _ HC.out hl).mono ?_
  rintro e wn ⟨g, rfl, hg, hd, hu⟩
  have D := Lib.hid hd
  have UF := Lib.hid hu
  obtain ⟨w1, ew1⟩ : ∃ x : World, x = wn := ⟨_, rfl⟩
  subst ew1
  have U : Hid (Upd [g] w1 w1) := (Upd.refl w1).mono (by simp)
  have HgB : Hid (∀ k, k ∈ [g] → k < w1.heap.size) := fun k hk => by rw [List.mem_singleton.1 hk]; exact hd.lt
  have HgF : Hid (∀ k, k ∈ [g] → w.heap.size ≤ k) := fun k hk => by rw [List.mem_singleton.1 hk]; exact hg
  clear hd hu
  go_wp2_with fail
  refine (l07Draw_c g a c bs _ D.out).mono ?_
  rintro e wn ⟨v, xs, rfl, ho, lxs, hd, hu⟩
  replace D := Lib.hid hd
  have O := Lib.hid (ho.mono U.out.size)
  replace U := Lib.hid (U.out.then1 hu)
  obtain ⟨pv, dv, ev⟩ := ho.form
  subst ev
  clear ho hd hu
  go_wp2_with fail
  refine (l07Stiff_c g a c bs _ D.out).mono ?_
  rintro e wn ⟨v, ys, rfl, ho, lys, hd, hu⟩
  replace D := Lib.hid hd
  have O2 := Lib.hid (ho.mono U.out.size)
  replace O := Lib.hid (O.out.kept hu HgB.out)
  replace U := Lib.hid (U.out.then1 hu)
  obtain ⟨pq, dq, ev⟩ := ho.form
  subst ev
  clear ho hd hu
  go_wp2_with fail
  refine (l01Next_c g a c bs _ _ D.out).mono ?_
  rintro e wn ⟨z, rfl, hz, hd, hu⟩
  replace D := Lib.hid hd
  replace U := Lib.hid (U.out.then1 hu)
  replace O := Lib.hid (O.out.kept hu HgB.out)
  replace O2 := Lib.hid (O2.out.kept hu HgB.out)
  clear hd hu
  go_wp2_with fail
  refine (l01Pick_c g a c bs _ _ [600 + z, 900, 0, 3000, 3001] _ (D.out.kept0 ((Upd.refl _).alloc _)) (lit_ints _ [600 + z, 900, 0, 3000, 3001]) (fun ad e => by cases e; exact D.out.lt) (by simp) (by simp)).mono ?_
  rintro e wn ⟨m, rfl, hm, hd, hu⟩
  replace D := Lib.hid hd
  replace U := Lib.hid ((U.out.alloc _).then1 hu)
  replace O := Lib.hid ((O.out.kept0 ((Upd.refl _).alloc _)).kept hu HgB.out)
  replace O2 := Lib.hid ((O2.out.kept0 ((Upd.refl _).alloc _)).kept hu HgB.out)
  clear hd hu
  go_wp2_with fail
  go_ret3
  exact ⟨_, xs, _, _, ys, _, m, rfl, O.out.ints, O2.out.ints, by omega, ⟨O.out.cap.1, O2.out.cap.1⟩, UF.out.after0 U.out HgF.out⟩
set_option maxRecDepth 20000 in
set_option maxHeartbeats 3200000 in
theorem DrawOutOfBand_c (a : Option Addr) (c : Nat) (bs : List Int) (w : World) (hc : U8At w a bs) (hl : bs.length ≤ 4096) : Calls Try.prog 53 #[.slice a bs.length c] w (DrawLI w) := by
  have HC := Lib.hid hc
  clear hc
  go_enter Try.func53, Try.ntmps53
  go_wp2_with fail
  refine (l01From_c a c bs _ HC.out hl).mono ?_
  rintro e wn ⟨g, rfl, hg, hd, hu⟩
  have D := Lib.hid hd
  have UF := Lib.hid hu
  obtain ⟨w1, ew1⟩ : ∃ x : World, x = wn := ⟨_, rfl⟩
  subst ew1
  have U : Hid (Upd [g] w1 w1) := (Upd.refl w1).mono (by simp)
  have HgB : Hid (∀ k, k ∈ [g] → k < w1.heap.size) := fun k hk => by rw [List.mem_singleton.1 hk]; exact hd.lt
  have HgF : Hid (∀ k, k ∈ [g] → w.heap.size ≤ k) := fun k hk => by rw [List.mem_singleton.1 hk]; exact hg
  clear hd hu
  go_wp2_with fail
  refine (l07Draw_c g a c bs _ D.out).mono ?_
  rintro e wn ⟨v, xs, rfl, ho, lxs, hd, hu⟩
  replace D := Lib.hid hd
  have O := Lib.hid (ho.mono U.out.size)
  replace U := Lib.hid (U.out.then1 hu)
  obtain ⟨pv, dv, ev⟩ := ho.form
  subst ev
  clear ho hd hu
  go_wp2_with fail
  refine (l01Next_c g a c bs _ _ D.out).mono ?_
  rintro e wn ⟨z, rfl, hz, hd, hu⟩
  replace D := Lib.hid hd
  replace U := Lib.hid (U.out.then1 hu)
  replace O := Lib.hid (O.out.kept hu HgB.out)
  clear hd hu
  go_wp2_with fail
  refine (l01Pick_c g a c bs _ _ [z, 5, 0, 100, 101, -1] _ (D.out.kept0 ((Upd.refl _).alloc _)) (lit_ints _ [z, 5, 0, 100, 101, -1]) (fun ad e => by cases e; exact D.out.lt) (by simp) (by simp)).mono ?_
  rintro e wn ⟨m, rfl, hm, hd, hu⟩
  replace D := Lib.hid hd
  replace U := Lib.hid ((U.out.alloc _).then1 hu)
  replace O := Lib.hid ((O.out.kept0 ((Upd.refl _).alloc _)).kept hu HgB.out)
  clear hd hu
  go_wp2_with fail
  go_ret2
  exact ⟨_, xs, _, m, rfl, O.out.ints, by omega, O.out.cap.1, UF.out.after0 U.out HgF.out⟩
set_option maxRecDepth 20000 in
set_option maxHeartbeats 3200000 in
theorem DrawSlackSpokes_c (a : Option Addr) (c : Nat) (bs : List Int) (w : World) (hc : U8At w a bs) (hl : bs.length ≤ 4096) : Calls Try.prog 56 #[.slice a bs.length c] w (DrawLI w) := by
  have HC := Lib.hid hc
  clear hc
  go_enter Try.func56, Try.ntmps56
  go_wp2_with fail
  refine (l01From_c a c bs _ HC.out hl).mono ?_
  rintro e wn ⟨g, rfl, hg, hd, hu⟩
  have D := Lib.hid hd
  have UF := Lib.hid hu
  obtain ⟨w1, ew1⟩ : ∃ x : World, x = wn := ⟨_, rfl⟩
  subst ew1
  have U : Hid (Upd [g] w1 w1) := (Upd.refl w1).mono (by simp)
  have HgB : Hid (∀ k, k ∈ [g] → k < w1.heap.size) := fun k hk => by rw [List.mem_singleton.1 hk]; exact hd.lt
  have HgF : Hid (∀ k, k ∈ [g] → w.heap.size ≤ k) := fun k hk => by rw [List.mem_singleton.1 hk]; exact hg
  clear hd hu
  go_wp2_with fail
  refine (l07Draw_c g a c bs _ D.out).mono ?_
  rintro e wn ⟨v, xs, rfl, ho, lxs, hd, hu⟩
  replace D := Lib.hid hd
  have O := Lib.hid (ho.mono U.out.size)
  replace U := Lib.hid (U.out.then1 hu)
  obtain ⟨pv, dv, ev⟩ := ho.form
  subst ev
  clear ho hd hu
  go_wp2_with fail
  refine (l01Next_c g a c bs _ _ D.out).mono ?_
  rintro e wn ⟨z, rfl, hz, hd, hu⟩
  replace D := Lib.hid hd
  replace U := Lib.hid (U.out.then1 hu)
  replace O := Lib.hid (O.out.kept hu HgB.out)
  clear hd hu
  go_wp2_with fail
  refine (l01Pick_c g a c bs _ _ [600 + z, 0, 3000, 3001] _ (D.out.kept0 ((Upd.refl _).alloc _)) (lit_ints _ [600 + z, 0, 3000, 3001]) (fun ad e => by cases e; exact D.out.lt) (by simp) (by simp)).mono ?_
  rintro e wn ⟨m, rfl, hm, hd, hu⟩
  replace D := Lib.hid hd
  replace U := Lib.hid ((U.out.alloc _).then1 hu)
  replace O := Lib.hid ((O.out.kept0 ((Upd.refl _).alloc _)).kept hu HgB.out)
  clear hd hu
  go_wp2_with fail
  go_ret2
  exact ⟨_, xs, _, m, rfl, O.out.ints, by omega, O.out.cap.1, UF.out.after0 U.out HgF.out⟩
set_option maxRecDepth 20000 in
set_option maxHeartbeats 3200000 in
theorem DrawIsStiffness_c (a : Option Addr) (c : Nat) (bs : List Int) (w : World) (hc : U8At w a bs) (hl : bs.length ≤ 4096) : Calls Try.prog 49 #[.slice a bs.length c] w (DrawL1 w) := by
  have HC := Lib.hid hc
  clear hc
  go_enter Try.func49, Try.ntmps49
  go_wp2_with fail
  refine (l01From_c a c bs _ HC.out hl).mono ?_
  rintro e wn ⟨g, rfl, hg, hd, hu⟩
  have D := Lib.hid hd
  have UF := Lib.hid hu
  obtain ⟨w1, ew1⟩ : ∃ x : World, x = wn := ⟨_, rfl⟩
  subst ew1
  have U : Hid (Upd [g] w1 w1) := (Upd.refl w1).mono (by simp)
  have HgB : Hid (∀ k, k ∈ [g] → k < w1.heap.size) := fun k hk => by rw [List.mem_singleton.1 hk]; exact hd.lt
  have HgF : Hid (∀ k, k ∈ [g] → w.heap.size ≤ k) := fun k hk => by rw [List.mem_singleton.1 hk]; exact hg
  clear hd hu
  go_wp2_with fail
  refine (l07Stiff_c g a c bs _ D.out).mono ?_
  rintro e wn ⟨v, xs, rfl, ho, lxs, hd, hu⟩
  replace D := Lib.hid hd
  have O := Lib.hid (ho.mono U.out.size)
  replace U := Lib.hid (U.out.then1 hu)
  obtain ⟨pv, dv, ev⟩ := ho.form
  subst ev
  clear ho hd hu
  go_wp2_with fail
  go_ret
  exact ⟨_, xs, _, rfl, O.out.ints, by omega, O.out.cap.1, UF.out.after0 U.out HgF.out⟩
set_option maxRecDepth 20000 in
set_option maxHeartbeats 6400000 in
theorem DrawTurnAll_c (a : Option Addr) (c : Nat) (bs : List Int) (w : World) (hc : U8At w a bs) (hl : bs.length ≤ 4096) : Calls Try.prog 44 #[.slice a bs.length c] w (DrawLLL w) := by
  have HC := Lib.hid hc
  clear hc
  go_enter Try.func44, Try.ntmps44
  go_wp2_with fail
  refine (l01From_c a c bs _ HC.out hl).mono ?_
  rintro e wn ⟨g, rfl, hg, hd, hu⟩
  have D := Lib.hid hd
  have UF := Lib.hid hu
  obtain ⟨w1, ew1⟩ : ∃ x : World, x = wn := ⟨_, rfl⟩
  subst ew1
  have U : Hid (Upd [g] w1 w1) := (Upd.refl w1).mono (by simp)
  have HgB : Hid (∀ k, k ∈ [g] → k < w1.heap.size) := fun k hk => by rw [List.mem_singleton.1 hk]; exact hd.lt
  have HgF : Hid (∀ k, k ∈ [g] → w.heap.size ≤ k) := fun k hk => by rw [List.mem_singleton.1 hk]; exact hg
  clear hd hu
  go_wp2_with fail
  refine (l07Draw_c g a c bs _ D.out).mono ?_
  rintro e wn ⟨v, xs, rfl, ho, lxs, hd, hu⟩
  replace D := Lib.hid hd
  have O := Lib.hid (ho.mono U.out.size)
  replace U := Lib.hid (U.out.then1 hu)
  obtain ⟨pv, dv, ev⟩ := ho.form
  subst ev
  clear ho hd hu
  go_wp2_with fail
  refine (l07Stiff_c g a c bs _ D.out).mono ?_
  rintro e wn ⟨v, ys, rfl, ho, lys, hd, hu⟩
  replace D := Lib.hid hd
  have O2 := Lib.hid (ho.mono U.out.size)
  replace O := Lib.hid (O.out.kept hu HgB.out)
  replace U := Lib.hid (U.out.then1 hu)
  obtain ⟨pq, dq, ev⟩ := ho.form
  subst ev
  clear ho hd hu
  obtain ⟨W0, eW0⟩ : ∃ x : World, x = wn := ⟨_, rfl⟩
  subst eW0
  have HCp : Hid (xs.length ≤ dv ∧ ys.length ≤ dq) := ⟨O.out.cap.1, O2.out.cap.1⟩
  have I0 : Hid (∀ w', Upd [g] W0 w' → IntsAt w' pv xs ∧ IntsAt w' pq ys) := fun w' u => ⟨(O.out.kept u HgB.out).ints, (O2.out.kept u HgB.out).ints⟩
  have UB := U
  replace U : Hid (Upd [g] W0 (W0.alloc (.cells #[] 2))) := ((Upd.refl W0).alloc _).mono (by simp)
  replace HgB : Hid (∀ k, k ∈ [g] → k < W0.heap.size) := fun k hk => Nat.lt_of_lt_of_le (HgB.out k hk) UB.out.size
  have O3 : Hid (∃ zs, OwnI (W0.alloc (.cells #[] 2)) W0.heap.size (.slice (some ⟨W0.heap.size, 0, none⟩) 0 0) zs ∧ zs.length = 0) := ⟨[], lit_own (Nat.le_refl _) [] (by simp), rfl⟩
  replace D := Lib.hid (D.out.kept0 ((Upd.refl W0).alloc (.cells #[] 2)))
  clear O O2
  go_wp2_with fail
  have hxs : 3 ≤ xs.length ∧ xs.length ≤ 60 := by omega
  generalize W0.alloc (.cells #[] 2) = wm at D U O3 ⊢
  go_loopw [8, 9] (fun v i wr => ∃ k : Nat, k ≤ xs.length ∧ i = .int .i64 k ∧ Hid (∃ zs, OwnI wr W0.heap.size v zs ∧ zs.length = k) ∧ Hid (DC wr g a c bs) ∧ Hid (Upd [g] W0 wr)) (fun _ i _ => xs.length - (intOf i).toNat)
  case atStart => exact ⟨0, by omega, rfl, O3, D, U⟩
  case round =>
    clear O3 D U
    obtain ⟨k, hk, rfl, O3, D, U⟩ := hrel
    obtain ⟨zs, ho, hl3⟩ := O3.out
    have O4 := Lib.hid ho
    have HL := Lib.hid hl3
    clear ho hl3 O3
    by_cases hlt : k < xs.length
    · go_wp2_with fail
      refine (l01Next_c g a c bs _ _ D.out).mono ?_
      rintro e wn ⟨z, rfl, hz, hd, hu⟩
      replace D := Lib.hid hd
      replace U := Lib.hid (U.out.then1 hu)
      replace O4 := Lib.hid (O4.out.kept hu HgB.out)
      clear hd hu
      go_wp2_with fail
      refine (l01Pick_c g a c bs _ _ [0, 0, z - 4] _ (D.out.kept0 ((Upd.refl _).alloc _)) (lit_ints _ [0, 0, z - 4]) (fun ad e => by cases e; exact D.out.lt) (by simp) (by simp)).mono ?_
      rintro e wn ⟨y, rfl, hy, hd, hu⟩
      replace D := Lib.hid hd
      replace U := Lib.hid ((U.out.alloc _).then1 hu)
      replace O4 := Lib.hid ((O4.out.kept0 ((Upd.refl _).alloc _)).kept hu HgB.out)
      clear hd hu
      go_wp2_with (at_builtin; refine wpList_appB rfl _ _ rfl _ _ _ rfl rfl O4.out U.out.size (by (have := HL.out; omega)) ?_; intro v' w9 z1 z2; have Z1 := Lib.hid z1; have DZ := Lib.hid (D.out.kept z2 (fun k hk => by have := (O4.out.low k (Option.mem_toList.1 hk)); have := HgB.out g (by simp); omega)); have UZ := Lib.hid (U.out.afterB z2 (fun k hk => O4.out.low k (Option.mem_toList.1 hk))); clear z1 z2)
      have HZ : Hid (∃ zs, OwnI w9 W0.heap.size v' zs ∧ zs.length = k + 1) := ⟨_, Z1.out, by have := HL.out; simp; omega⟩
      go_roundw
      case rel => exact ⟨k + 1, by omega, by go_num, HZ, DZ, UZ⟩
      case measure => simp [intOf]; omega
    · obtain rfl : k = xs.length := by omega
      have hzl : 3 ≤ zs.length ∧ zs.length ≤ 60 := by have := HL.out; omega
      clear HL
      go_wp2_with fail
      refine (l01Next_c g a c bs _ _ D.out).mono ?_
      rintro e wn ⟨q, rfl, hq, hd, hu⟩
      replace D := Lib.hid hd
      replace U := Lib.hid (U.out.then1 hu)
      replace O4 := Lib.hid (O4.out.kept hu HgB.out)
      clear hd hu
      by_cases k0 : q = 0
      · subst k0
        go_wp2_with (at_builtin; refine wpList_appB rfl _ _ rfl _ _ _ rfl rfl O4.out U.out.size (by omega) ?_; intro v' w9 z1 z2; have Z1 := Lib.hid z1; have DZ := Lib.hid (D.out.kept z2 (fun k hk => by have := (O4.out.low k (Option.mem_toList.1 hk)); have := HgB.out g (by simp); omega)); have UZ := Lib.hid (U.out.afterB z2 (fun k hk => O4.out.low k (Option.mem_toList.1 hk))); clear z1 z2)
        obtain ⟨r, h, ev⟩ := Z1.out.form
        subst ev
        go_ret3
        exact ⟨_, xs, _, _, ys, _, r, _, h, rfl, (I0.out _ UZ.out).1, (I0.out _ UZ.out).2, Z1.out.ints, by simp; omega, ⟨HCp.out.1, HCp.out.2, Z1.out.cap.1⟩, UF.out.after0 (UB.out.then1 UZ.out) HgF.out⟩
      · by_cases k1 : q = 1
        · subst k1
          obtain ⟨ob, oc, ev, hob, hob2⟩ := O4.out.row (by omega)
          subst ev
          go_wp2_with fail
          refine (l01Pick_c g a c bs _ _ [100, 101, -100, -101] _ (D.out.kept0 ((Upd.refl _).alloc _)) (lit_ints _ [100, 101, -100, -101]) (fun ad e => by cases e; exact D.out.lt) (by simp) (by simp)).mono ?_
          rintro e wn ⟨z, rfl, hz, hd, hu⟩
          replace D := Lib.hid hd
          replace U := Lib.hid ((U.out.alloc _).then1 hu)
          replace O4 := Lib.hid ((O4.out.kept0 ((Upd.refl _).alloc _)).kept hu HgB.out)
          clear hd hu
          have hc := O4.out.cell (k := 0) (List.getElem?_eq_getElem (by omega))
          have hf := O4.out.free 0
          have O5 : Hid (OwnI (wn.setCell ⟨ob, 0, none⟩ (.int .i64 z)) W0.heap.size (.slice (some ⟨ob, 0, none⟩) (zs.set 0 z).length oc) (zs.set 0 z)) := by have := O4.out.set 0 z (by omega); rw [List.length_set]; exact this
          have V : Upd [ob] wn (wn.setCell ⟨ob, 0, none⟩ (.int .i64 z)) := ((Upd.refl wn).mono (by simp)).setCell _ (.inl (by simp))
          have U5 := Lib.hid (U.out.afterB V (fun k hk => by rw [List.mem_singleton.1 hk]; exact hob))
          clear V
          have HLs : Hid ((zs.set 0 z).length = zs.length) := List.length_set
          go_wp2_with fail
          go_ret3
          refine ⟨pv, xs, dv, pq, ys, dq, some ⟨ob, 0, none⟩, zs.set 0 z, oc, ?_, (I0.out _ U5.out).1, (I0.out _ U5.out).2, O5.out.ints, by simp; omega, ⟨HCp.out.1, HCp.out.2, O5.out.cap.1⟩, UF.out.after0 (UB.out.then1 U5.out) HgF.out⟩
          rw [HLs.out]; rfl
        · obtain ⟨r, h, ev⟩ := O4.out.form
          subst ev
          go_wp2_with fail
          go_ret3
          exact ⟨_, xs, _, _, ys, _, r, zs, h, rfl, (I0.out _ U.out).1, (I0.out _ U.out).2, O4.out.ints, by omega, ⟨HCp.out.1, HCp.out.2, O4.out.cap.1⟩, UF.out.after0 (UB.out.then1 U.out) HgF.out⟩
end Go.Proofs.Ytdjdddepplaagaa
