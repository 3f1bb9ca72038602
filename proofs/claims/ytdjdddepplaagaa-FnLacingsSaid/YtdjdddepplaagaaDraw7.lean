/- The draws of chapter 7. -/
import Derived.Test.YtdjdddepplaagaaDraw3
namespace Go.Proofs.Ytdjdddepplaagaa
open Go.RowKit
set_option linter.unusedVariables false
set_option linter.unusedSimpArgs false

set_option maxRecDepth 20000 in
set_option maxHeartbeats 6400000 in
theorem l07Draw_c (g : Nat) (a : Option Addr) (c : Nat) (bs : List Int) (w : World) (h : DC w g a c bs) : Calls Try.prog 104 #[.pointer (some ⟨g, 0, none⟩)] w (DrawL 3 60 w g a c bs) := by
  have D := Lib.hid (h.kept0 ((Upd.refl w).alloc (.cells #[] 2)))
  have HgB : Hid (∀ k, k ∈ [g] → k < w.heap.size) := fun k hk => by rw [List.mem_singleton.1 hk]; exact h.lt
  have U : Hid (Upd [g] w (w.alloc (.cells #[] 2))) := ((Upd.refl w).alloc _).mono (by simp)
  have O := Lib.hid (OwnI.lit (Upd.refl w))
  clear h
  go_enter Try.func104, Try.ntmps104
  go_wp2_with fail
  refine (l01Next_c g a c bs _ _ D.out).mono ?_
  rintro e wn ⟨b, rfl, hb, hd, hu⟩
  replace D := Lib.hid hd
  replace U := Lib.hid (U.out.then1 hu)
  replace O := Lib.hid (O.out.kept hu HgB.out)
  clear hd hu
  go_wp2_with fail
  refine (l01Next_c g a c bs _ _ D.out).mono ?_
  rintro e wn ⟨n, rfl, hn, hd, hu⟩
  replace D := Lib.hid hd
  replace U := Lib.hid (U.out.then1 hu)
  replace O := Lib.hid (O.out.kept hu HgB.out)
  clear hd hu
  go_wp2_with fail
  obtain ⟨N, hN⟩ : ∃ N : Nat, 4 + n = N := ⟨(4 + n).toNat, by omega⟩
  rw [hN]
  have hN2 : 4 ≤ N ∧ N ≤ 16 := by omega
  clear hN hn
  have O2 : Hid (∃ xs, OwnI wn w.heap.size (.slice (some ⟨w.heap.size, 0, none⟩) 0 0) xs ∧ xs.length + N = N) := ⟨[], O.out, by simp⟩
  clear O
  go_loopw [3, 5] (fun v i wr => ∃ m : Nat, m ≤ N ∧ i = .int .i64 m ∧ Hid (∃ xs, OwnI wr w.heap.size v xs ∧ xs.length + m = N) ∧ Hid (DC wr g a c bs) ∧ Hid (Upd [g] w wr)) (fun _ i _ => (intOf i).toNat)
  case atStart => exact ⟨N, Nat.le_refl _, rfl, O2, D, U⟩
  case round =>
    clear O2 D U
    obtain ⟨m, hm, rfl, O2, D, U⟩ := hrel
    obtain ⟨xs, ho, hl⟩ := O2.out
    have O := Lib.hid ho
    have HL := Lib.hid hl
    clear ho hl O2
    by_cases hm0 : 0 < m
    · go_wp2_with fail
      refine (l01Next_c g a c bs _ _ D.out).mono ?_
      rintro e wn ⟨y, rfl, hy, hd, hu⟩
      replace D := Lib.hid hd
      replace U := Lib.hid (U.out.then1 hu)
      replace O := Lib.hid (O.out.kept hu HgB.out)
      clear hd hu
      go_wp2_with (at_builtin; refine wpList_appB rfl _ _ rfl _ _ _ rfl rfl O.out U.out.size (by (have := HL.out; omega)) ?_; intro v' w9 z1 z2; have Z1 := Lib.hid z1; have DZ := Lib.hid (D.out.kept z2 (fun k hk => by have := (O.out.low k (Option.mem_toList.1 hk)); have := HgB.out g (by simp); omega)); have UZ := Lib.hid (U.out.afterB z2 (fun k hk => O.out.low k (Option.mem_toList.1 hk))); clear z1 z2)
      have HZ : Hid (∃ xs, OwnI w9 w.heap.size v' xs ∧ xs.length + (m - 1) = N) := ⟨_, Z1.out, by have := HL.out; simp; omega⟩
      go_roundw
      case rel => exact ⟨m - 1, by omega, by go_num, HZ, DZ, UZ⟩
      case measure => simp [intOf]; omega
    · obtain rfl : m = 0 := by omega
      obtain rfl : xs.length = N := by have := HL.out; omega
      clear HL hm0
      go_wp2_with fail
      refine (l01Next_c g a c bs _ _ D.out).mono ?_
      rintro e wn ⟨k, rfl, hk, hd, hu⟩
      replace D := Lib.hid hd
      replace U := Lib.hid (U.out.then1 hu)
      replace O := Lib.hid (O.out.kept hu HgB.out)
      clear hd hu
      by_cases k0 : k = 0
      · subst k0
        obtain ⟨ob, oc, ev, hob, hob2⟩ := O.out.row (by omega)
        subst ev
        go_wp2_with fail
        refine (l01Pick_c g a c bs _ _ [-1, 0, 3000, 3001] _ (D.out.kept0 ((Upd.refl _).alloc _)) (lit_ints _ [-1, 0, 3000, 3001]) (fun ad e => by cases e; exact D.out.lt) (by simp) (by simp)).mono ?_
        rintro e wn ⟨z, rfl, hz, hd, hu⟩
        replace D := Lib.hid hd
        replace U := Lib.hid ((U.out.alloc _).then1 hu)
        replace O := Lib.hid ((O.out.kept0 ((Upd.refl _).alloc _)).kept hu HgB.out)
        clear hd hu
        have hc := O.out.cell (k := 0) (List.getElem?_eq_getElem (by omega))
        have hf := O.out.free 0
        have O3 := Lib.hid (O.out.set 0 z (by omega))
        have V : Upd [ob] wn (wn.setCell ⟨ob, 0, none⟩ (.int .i64 z)) := ((Upd.refl wn).mono (by simp)).setCell _ (.inl (by simp))
        have D3 := Lib.hid (D.out.kept V (fun k hk => by rw [List.mem_singleton.1 hk]; have := HgB.out g (by simp); omega))
        have U3 := Lib.hid (U.out.afterB V (fun k hk => by rw [List.mem_singleton.1 hk]; exact hob))
        clear V
        go_wp2_with fail
        go_ret
        exact ⟨_, _, rfl, O3.out, by simp; omega, D3.out, U3.out⟩
      · by_cases k1 : k = 1
        · subst k1
          obtain ⟨ob, oc, ev, hob, hob2⟩ := O.out.row (by omega)
          subst ev
          have hcp := O.out.cap.1
          go_wp2_with fail
          go_ret
          exact ⟨_, _, rfl, O.out.cut (k := 3) (by omega), by simp; omega, D.out, U.out⟩
        · by_cases k2 : k = 2
          · subst k2
            obtain ⟨p, oc, ev⟩ := O.out.form
            subst ev
            have O4 : Hid (∃ ys, OwnI wn w.heap.size (.slice p xs.length oc) ys ∧ ys.length = xs.length) := ⟨xs, O.out, rfl⟩
            clear O
            have hx4 : 4 ≤ xs.length ∧ xs.length ≤ 49 := by omega
            generalize xs.length = n0 at O4 hx4 ⊢
            go_wp2_with fail
            go_loopw [3] (fun v wr => ∃ (p : Option Addr) (n cc : Nat), v = .slice p n cc ∧ 4 ≤ n ∧ n ≤ 49 ∧ Hid (∃ ys, OwnI wr w.heap.size (.slice p n cc) ys ∧ ys.length = n) ∧ Hid (DC wr g a c bs) ∧ Hid (Upd [g] w wr)) (fun v _ => 49 - lenOf v)
            case atStart => exact ⟨p, n0, oc, rfl, by omega, by omega, O4, D, U⟩
            case round =>
              clear O4 D U
              obtain ⟨p, n1, cc, rfl, hn1, hn2, O4, D, U⟩ := hrel
              obtain ⟨ys, ho, hl⟩ := O4.out
              have O := Lib.hid ho
              clear ho O4
              go_wp2_with fail
              refine (l01Next_c g a c bs _ _ D.out).mono ?_
              rintro e wn ⟨q, rfl, hq, hd, hu⟩
              replace D := Lib.hid hd
              replace U := Lib.hid (U.out.then1 hu)
              replace O := Lib.hid (O.out.kept hu HgB.out)
              clear hd hu
              by_cases hq : (n1 : Int) < 48 + q
              · skip
                go_wp2_with (at_builtin; refine wpList_appB rfl _ _ rfl _ _ _ rfl rfl O.out U.out.size (by omega) ?_; intro v' w9 z1 z2; have Z1 := Lib.hid z1; have DZ := Lib.hid (D.out.kept z2 (fun k hk => by have := (O.out.low k (Option.mem_toList.1 hk)); have := HgB.out g (by simp); omega)); have UZ := Lib.hid (U.out.afterB z2 (fun k hk => O.out.low k (Option.mem_toList.1 hk))); clear z1 z2)
                obtain ⟨p2, c2, ev⟩ := Z1.out.form
                have hl2 : (ys ++ [600 + b]).length = n1 + 1 := by simp; omega
                rw [hl2] at ev
                subst ev
                have HZ : Hid (∃ ys, OwnI w9 w.heap.size (.slice p2 (n1 + 1) c2) ys ∧ ys.length = n1 + 1) := ⟨_, Z1.out, hl2⟩
                clear hl2
                go_roundw
                case rel => exact ⟨p2, n1 + 1, c2, rfl, by omega, by omega, HZ, DZ, UZ⟩
                case measure => simp [lenOf]; omega
              · go_wp2_with fail
                go_ret
                exact ⟨_, _, rfl, O.out, by omega, D.out, U.out⟩
          · go_wp2_with fail
            go_ret
            exact ⟨_, _, rfl, O.out, by omega, D.out, U.out⟩
end Go.Proofs.Ytdjdddepplaagaa
