/- The draw of two spokes to swap. -/
import Derived.Test.YtiiljmaianfdeaaDraw6c
namespace Go.Proofs.Ytiiljmaianfdeaa
open Go.RowKit
set_option linter.unusedVariables false
set_option linter.unusedSimpArgs false

theorem results_tmp4 {fn : Func} {t u v x : Tmp} (h : fn.results = #[.tmp t, .tmp u, .tmp v, .tmp x]) (tmps : Array Value) (P : Program) (w : World) :
    (results fn tmps).run P w = .ok (.tuple #[tmps.getD t undef, tmps.getD u undef, tmps.getD v undef, tmps.getD x undef]) w := by
  simp [results, h]
def DrawNLII (w : World) (e : Ending) (w' : World) : Prop :=
  ∃ n p xs d k l, e = .returned (.tuple #[.int .i64 n, .slice p xs.length d, .int .i64 k, .int .i64 l]) ∧ IntsAt w' p xs ∧ ((0 ≤ n ∧ n ≤ 24) ∧ xs.length ≤ 30) ∧ xs.length ≤ d ∧ Upd [] w w'
def DrawNLIo (w : World) (e : Ending) (w' : World) : Prop :=
  ∃ n p xs d k, e = .returned (.tuple #[.int .i64 n, .slice p xs.length d, .int .i64 k]) ∧ OwnI w' w.heap.size (.slice p xs.length d) xs ∧ ((0 ≤ n ∧ n ≤ 24) ∧ xs.length ≤ 30 ∧ 0 ≤ k ∧ k ≤ 30) ∧ Upd [] w w'
set_option maxRecDepth 20000 in
set_option maxHeartbeats 3200000 in
theorem DrawCrossingsOf_o (a : Option Addr) (c : Nat) (bs : List Int) (w : World) (hc : U8At w a bs) (hl : bs.length ≤ 4096) : Calls Try.prog 7 #[.slice a bs.length c] w (DrawNLIo w) := by
  have HC := Lib.hid hc
  clear hc
  go_enter Try.func7, Try.ntmps7
  go_wp2_with fail
  refine (l01From_c a c bs _ HC.out hl).mono ?_
  rintro e wn ⟨g, rfl, hg, hd, hu⟩
  have D := Lib.hid hd
  have UF := Lib.hid hu
  obtain ⟨w1, ew1⟩ : ∃ x : World, x = wn := ⟨_, rfl⟩
  subst ew1
  have U : Hid (Upd [g] w1 w1) := (Upd.refl w1).mono (by simp)
  have HgB : Hid (∀ k, k ∈ [g] → k < w1.heap.size) := fun k hk => by rw [List.mem_singleton.1 hk]; exact hd.lt
  have HgF : Hid (∀ k, k ∈ [g] → w.heap.size ≤ k) := fun k hk => by rw [List.mem_singleton.1 hk]; exact hg
  clear hd hu
  go_wp2_with fail
  refine (l06Draw_c g a c bs _ D.out).mono ?_
  rintro e wn ⟨n, v, xs, rfl, ho, lx, hd, hu⟩
  obtain ⟨pv, dv, ev⟩ := ho.form
  subst ev
  have O := Lib.hid (ho.mono U.out.size)
  replace U := Lib.hid (U.out.then1 hu)
  replace D := Lib.hid hd
  clear ho hu hd
  go_wp2_with fail
  refine (l01Next_c g a c bs _ _ D.out).mono ?_
  rintro e wn ⟨y, rfl, hy, hd, hu⟩
  replace D := Lib.hid hd
  replace U := Lib.hid (U.out.then1 hu)
  replace O := Lib.hid (O.out.kept hu HgB.out)
  clear hd hu
  go_wp2_with fail
  refine (l01Next_c g a c bs _ _ D.out).mono ?_
  rintro e wn ⟨k, rfl, hk, hd, hu⟩
  replace D := Lib.hid hd
  replace U := Lib.hid (U.out.then1 hu)
  replace O := Lib.hid (O.out.kept hu HgB.out)
  clear hd hu
  have hkb : 0 ≤ k ∧ k ≤ 30 := by omega
  clear hk
  go_wp2_with fail
  go_ret3
  exact ⟨n, _, xs, _, k, rfl, O.out.mono UF.out.size, ⟨lx.1, lx.2, hkb⟩, UF.out.after0 U.out HgF.out⟩
set_option maxRecDepth 20000 in
set_option maxHeartbeats 3200000 in
theorem DrawSwapSpokes_c (a : Option Addr) (c : Nat) (bs : List Int) (w : World) (hc : U8At w a bs) (hl : bs.length ≤ 4096) : Calls Try.prog 16 #[.slice a bs.length c] w (DrawNLII w) := by
  have HC := Lib.hid hc
  clear hc
  go_enter Try.func16, Try.ntmps16
  go_wp2_with fail
  refine (l01From_c a c bs _ HC.out hl).mono ?_
  rintro e wn ⟨g, rfl, hg, hd, hu⟩
  have D := Lib.hid hd
  have UF := Lib.hid hu
  obtain ⟨w1, ew1⟩ : ∃ x : World, x = wn := ⟨_, rfl⟩
  subst ew1
  have U : Hid (Upd [g] w1 w1) := (Upd.refl w1).mono (by simp)
  have HgB : Hid (∀ k, k ∈ [g] → k < w1.heap.size) := fun k hk => by rw [List.mem_singleton.1 hk]; exact hd.lt
  have HgF : Hid (∀ k, k ∈ [g] → w.heap.size ≤ k) := fun k hk => by rw [List.mem_singleton.1 hk]; exact hg
  clear hd hu
  have HC1 := Lib.hid (HC.out.kept0 UF.out)
  go_wp2_with fail
  refine (DrawCrossingsOf_o a c bs _ HC1.out hl).mono ?_
  rintro e w2 ⟨n, p, xs, d, k, rfl, ho, lx, hu⟩
  have O := Lib.hid ho
  replace D := Lib.hid (D.out.kept0 hu)
  have T : Hid (Upd [g] w1 w2) := U.out.then0 hu
  replace U := T
  clear ho hu
  go_wp2_with fail
  refine (l01Next_c g a c bs _ _ D.out).mono ?_
  rintro e wn ⟨y, rfl, hy, hd, hu⟩
  replace D := Lib.hid hd
  replace U := Lib.hid (U.out.then1 hu)
  replace O := Lib.hid (O.out.kept hu HgB.out)
  clear hd hu
  go_wp2_with fail
  refine (l01Next_c g a c bs _ _ D.out).mono ?_
  rintro e wn ⟨l, rfl, hl, hd, hu⟩
  replace D := Lib.hid hd
  replace U := Lib.hid (U.out.then1 hu)
  replace O := Lib.hid (O.out.kept hu HgB.out)
  clear hd hu
  go_wp2_with fail
  ((try simp only [Exit.inBlock, Exit.then]); refine bodyPost_ret (results_tmp4 rfl _ _ _) rfl ?_)
  exact ⟨n, _, xs, _, k, l, rfl, O.out.ints, ⟨lx.1, lx.2.1⟩, O.out.cap.1, UF.out.after0 U.out HgF.out⟩
end Go.Proofs.Ytiiljmaianfdeaa
