/- The draws of chapter 6: from the code. -/
import Derived.Test.YtiiljmaianfdeaaDraw6
namespace Go.Proofs.Ytiiljmaianfdeaa
open Go.RowKit
set_option linter.unusedVariables false
set_option linter.unusedSimpArgs false

def DrawNLc (w : World) (e : Ending) (w' : World) : Prop :=
  ∃ n p xs d, e = .returned (.tuple #[.int .i64 n, .slice p xs.length d]) ∧ IntsAt w' p xs ∧ ((0 ≤ n ∧ n ≤ 24) ∧ xs.length ≤ 30) ∧ xs.length ≤ d ∧ Upd [] w w'
def DrawNLI (w : World) (e : Ending) (w' : World) : Prop :=
  ∃ n p xs d k, e = .returned (.tuple #[.int .i64 n, .slice p xs.length d, .int .i64 k]) ∧ IntsAt w' p xs ∧ ((0 ≤ n ∧ n ≤ 24) ∧ xs.length ≤ 30 ∧ 0 ≤ k ∧ k ≤ 30) ∧ xs.length ≤ d ∧ Upd [] w w'
set_option maxRecDepth 20000 in
set_option maxHeartbeats 3200000 in
theorem DrawEvenCrossings_c (a : Option Addr) (c : Nat) (bs : List Int) (w : World) (hc : U8At w a bs) (hl : bs.length ≤ 4096) : Calls Try.prog 10 #[.slice a bs.length c] w (DrawNLc w) := by
  have HC := Lib.hid hc
  clear hc
  go_enter Try.func10, Try.ntmps10
  go_wp2_with fail
  refine (l01From_c a c bs _ HC.out hl).mono ?_
  rintro e wn ⟨g, rfl, hg, hd, hu⟩
  have D := Lib.hid hd
  have UF := Lib.hid hu
  obtain ⟨w1, ew1⟩ : ∃ x : World, x = wn := ⟨_, rfl⟩
  subst ew1
  have U : Hid (Upd [g] w1 w1) := (Upd.refl w1).mono (by simp)
  have HgB : Hid (∀ k, k ∈ [g] → k < w1.heap.size) := fun k hk => by rw [List.mem_singleton.1 hk]; exact hd.lt
  have HgF : Hid (∀ k, k ∈ [g] → w.heap.size ≤ k) := fun k hk => by rw [List.mem_singleton.1 hk]; exact hg
  clear hd hu
  go_wp2_with fail
  refine (l06Draw_c g a c bs _ D.out).mono ?_
  rintro e wn ⟨n, v, xs, rfl, ho, lx, hd, hu⟩
  obtain ⟨pv, dv, ev⟩ := ho.form
  subst ev
  have O := Lib.hid (ho.mono U.out.size)
  replace U := Lib.hid (U.out.then1 hu)
  clear ho hu hd
  go_wp2_with fail
  go_ret2
  exact ⟨n, _, xs, _, rfl, O.out.ints, lx, O.out.cap.1, UF.out.after0 U.out HgF.out⟩
set_option maxRecDepth 20000 in
set_option maxHeartbeats 3200000 in
theorem DrawCrossingsOf_c (a : Option Addr) (c : Nat) (bs : List Int) (w : World) (hc : U8At w a bs) (hl : bs.length ≤ 4096) : Calls Try.prog 7 #[.slice a bs.length c] w (DrawNLI w) := by
  have HC := Lib.hid hc
  clear hc
  go_enter Try.func7, Try.ntmps7
  go_wp2_with fail
  refine (l01From_c a c bs _ HC.out hl).mono ?_
  rintro e wn ⟨g, rfl, hg, hd, hu⟩
  have D := Lib.hid hd
  have UF := Lib.hid hu
  obtain ⟨w1, ew1⟩ : ∃ x : World, x = wn := ⟨_, rfl⟩
  subst ew1
  have U : Hid (Upd [g] w1 w1) := (Upd.refl w1).mono (by simp)
  have HgB : Hid (∀ k, k ∈ [g] → k < w1.heap.size) := fun k hk => by rw [List.mem_singleton.1 hk]; exact hd.lt
  have HgF : Hid (∀ k, k ∈ [g] → w.heap.size ≤ k) := fun k hk => by rw [List.mem_singleton.1 hk]; exact hg
  clear hd hu
  go_wp2_with fail
  refine (l06Draw_c g a c bs _ D.out).mono ?_
  rintro e wn ⟨n, v, xs, rfl, ho, lx, hd, hu⟩
  obtain ⟨pv, dv, ev⟩ := ho.form
  subst ev
  have O := Lib.hid (ho.mono U.out.size)
  replace U := Lib.hid (U.out.then1 hu)
  replace D := Lib.hid hd
  clear ho hu hd
  go_wp2_with fail
  refine (l01Next_c g a c bs _ _ D.out).mono ?_
  rintro e wn ⟨y, rfl, hy, hd, hu⟩
  replace D := Lib.hid hd
  replace U := Lib.hid (U.out.then1 hu)
  replace O := Lib.hid (O.out.kept hu HgB.out)
  clear hd hu
  go_wp2_with fail
  refine (l01Next_c g a c bs _ _ D.out).mono ?_
  rintro e wn ⟨k, rfl, hk, hd, hu⟩
  replace D := Lib.hid hd
  replace U := Lib.hid (U.out.then1 hu)
  replace O := Lib.hid (O.out.kept hu HgB.out)
  clear hd hu
  have hkb : 0 ≤ k ∧ k ≤ 30 := by omega
  clear hk
  go_wp2_with fail
  go_ret3
  exact ⟨n, _, xs, _, k, rfl, O.out.ints, ⟨lx.1, lx.2, hkb⟩, O.out.cap.1, UF.out.after0 U.out HgF.out⟩
end Go.Proofs.Ytiiljmaianfdeaa
