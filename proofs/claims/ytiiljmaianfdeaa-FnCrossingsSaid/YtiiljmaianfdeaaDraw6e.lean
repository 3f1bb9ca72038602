/- The draw of two lacings. -/
import Derived.Test.YtiiljmaianfdeaaDraw6d
namespace Go.Proofs.Ytiiljmaianfdeaa
open Go.RowKit
set_option linter.unusedVariables false
set_option linter.unusedSimpArgs false

def DrawNLL (w : World) (e : Ending) (w' : World) : Prop :=
  ∃ n p xs d q ys f, e = .returned (.tuple #[.int .i64 n, .slice p xs.length d, .slice q ys.length f]) ∧ IntsAt w' p xs ∧ IntsAt w' q ys ∧ ((0 ≤ n ∧ n ≤ 24) ∧ xs.length ≤ 30 ∧ ys.length ≤ 30) ∧ (xs.length ≤ d ∧ ys.length ≤ f) ∧ Upd [] w w'
theorem usual_short {n k : Int} (h : n ≤ 24) : (usualL n k).length ≤ 30 := by
  unfold usualL; split
  · rw [usualF_length]; omega
  · simp
set_option maxRecDepth 20000 in
set_option maxHeartbeats 3200000 in
theorem DrawMovesBetween_c (a : Option Addr) (c : Nat) (bs : List Int) (w : World) (hc : U8At w a bs) (hl : bs.length ≤ 4096) : Calls Try.prog 13 #[.slice a bs.length c] w (DrawNLL w) := by
  have HC := Lib.hid hc
  clear hc
  go_enter Try.func13, Try.ntmps13
  go_wp2_with fail
  refine (l01From_c a c bs _ HC.out hl).mono ?_
  rintro e wn ⟨g, rfl, hg, hd, hu⟩
  have D := Lib.hid hd
  have UF := Lib.hid hu
  obtain ⟨w1, ew1⟩ : ∃ x : World, x = wn := ⟨_, rfl⟩
  subst ew1
  have U : Hid (Upd [g] w1 w1) := (Upd.refl w1).mono (by simp)
  have HgB : Hid (∀ k, k ∈ [g] → k < w1.heap.size) := fun k hk => by rw [List.mem_singleton.1 hk]; exact hd.lt
  have HgF : Hid (∀ k, k ∈ [g] → w.heap.size ≤ k) := fun k hk => by rw [List.mem_singleton.1 hk]; exact hg
  clear hd hu
  go_wp2_with fail
  refine (l06Draw_c g a c bs _ D.out).mono ?_
  rintro e wn ⟨n, v, xs, rfl, ho, lx, hd, hu⟩
  obtain ⟨pv, dv, ev⟩ := ho.form
  subst ev
  have O := Lib.hid (ho.mono U.out.size)
  replace U := Lib.hid (U.out.then1 hu)
  replace D := Lib.hid hd
  clear ho hu hd
  go_wp2_with fail
  all_goals
    refine (l01Next_c g a c bs _ _ D.out).mono ?_
    rintro e wn ⟨k, rfl, hk, hd, hu⟩
    replace D := Lib.hid hd
    replace U := Lib.hid (U.out.then1 hu)
    replace O := Lib.hid (O.out.kept hu HgB.out)
    clear hd hu
    clear hk
    go_wp2_with fail
    refine (sUsualLacing_c n k _).mono ?_
    rintro e w2 ⟨v, rfl, ho, hu⟩
    obtain ⟨pq, dq, ev⟩ := ho.form
    subst ev
    have O2 := Lib.hid (ho.mono U.out.size)
    replace O := Lib.hid (O.out.kept0 hu)
    replace D := Lib.hid (D.out.kept0 hu)
    replace U := Lib.hid (U.out.then0 hu)
    have hys := @usual_short n k (by omega)
    generalize usualL n k = ys at O2 hys ⊢
    generalize usualE n k = E
    clear ho hu
    by_cases e0 : E = 0
    · subst e0
      go_wp2_with fail
      refine (l01Next_c g a c bs _ _ D.out).mono ?_
      rintro e wn ⟨z, rfl, hz, hd, hu⟩
      replace D := Lib.hid hd
      replace U := Lib.hid (U.out.then1 hu)
      replace O := Lib.hid (O.out.kept hu HgB.out)
      replace O2 := Lib.hid (O2.out.kept hu HgB.out)
      clear hd hu
      by_cases z0 : z = 0
      · subst z0
        go_wp2_with fail
        refine (l06Draw_c g a c bs _ D.out).mono ?_
        rintro e wn ⟨n2, v, zs, rfl, ho, lz, hd, hu⟩
        obtain ⟨pz, dz, ev⟩ := ho.form
        subst ev
        have O3 := Lib.hid (ho.mono U.out.size)
        replace O := Lib.hid (O.out.kept hu HgB.out)
        replace U := Lib.hid (U.out.then1 hu)
        clear ho hu hd
        go_wp2_with fail
        go_ret3
        exact ⟨n, _, xs, _, _, zs, _, rfl, O.out.ints, O3.out.ints, ⟨lx.1, lx.2, lz.2⟩, ⟨O.out.cap.1, O3.out.cap.1⟩, UF.out.after0 U.out HgF.out⟩
      · go_wp2_with fail
        go_ret3
        exact ⟨n, _, xs, _, _, ys, _, rfl, O.out.ints, O2.out.ints, ⟨lx.1, lx.2, hys⟩, ⟨O.out.cap.1, O2.out.cap.1⟩, UF.out.after0 U.out HgF.out⟩
    · go_wp2_with fail
      refine (l06Draw_c g a c bs _ D.out).mono ?_
      rintro e wn ⟨n2, v, zs, rfl, ho, lz, hd, hu⟩
      obtain ⟨pz, dz, ev⟩ := ho.form
      subst ev
      have O3 := Lib.hid (ho.mono U.out.size)
      replace O := Lib.hid (O.out.kept hu HgB.out)
      replace U := Lib.hid (U.out.then1 hu)
      clear ho hu hd
      go_wp2_with fail
      go_ret3
      exact ⟨n, _, xs, _, _, zs, _, rfl, O.out.ints, O3.out.ints, ⟨lx.1, lx.2, lz.2⟩, ⟨O.out.cap.1, O3.out.cap.1⟩, UF.out.after0 U.out HgF.out⟩
end Go.Proofs.Ytiiljmaianfdeaa
