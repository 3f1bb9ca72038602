/- The draw of the usual lacing. -/
import Derived.Test.YtdjdddepplaagaaDraw6b
namespace Go.Proofs.Ytdjdddepplaagaa
open Go.RowKit
set_option linter.unusedVariables false
set_option linter.unusedSimpArgs false

def DrawII (w : World) (e : Ending) (w' : World) : Prop := ∃ n k, e = .returned (.tuple #[.int .i64 n, .int .i64 k]) ∧ Upd [] w w'
set_option maxRecDepth 20000 in
set_option maxHeartbeats 3200000 in
theorem DrawUsualLacing_c (a : Option Addr) (c : Nat) (bs : List Int) (w : World) (hc : U8At w a bs) (hl : bs.length ≤ 4096) : Calls Try.prog 22 #[.slice a bs.length c] w (DrawII w) := by
  have HC := Lib.hid hc
  clear hc
  go_enter Try.func22, Try.ntmps22
  go_wp2_with fail
  refine (l01From_c a c bs _ HC.out hl).mono ?_
  rintro e wn ⟨g, rfl, hg, hd, hu⟩
  have D := Lib.hid hd
  have UF := Lib.hid hu
  obtain ⟨w1, ew1⟩ : ∃ x : World, x = wn := ⟨_, rfl⟩
  subst ew1
  have U : Hid (Upd [g] w1 w1) := (Upd.refl w1).mono (by simp)
  have HgB : Hid (∀ k, k ∈ [g] → k < w1.heap.size) := fun k hk => by rw [List.mem_singleton.1 hk]; exact hd.lt
  have HgF : Hid (∀ k, k ∈ [g] → w.heap.size ≤ k) := fun k hk => by rw [List.mem_singleton.1 hk]; exact hg
  clear hd hu
  go_wp2_with fail
  refine (l01Pick_c g a c bs _ _ [6, 8, 10, 12, 16, 18, 20, 24, 9, 14] _ (D.out.kept0 ((Upd.refl _).alloc _)) (lit_ints _ [6, 8, 10, 12, 16, 18, 20, 24, 9, 14]) (fun ad e => by cases e; exact D.out.lt) (by simp) (by simp)).mono ?_
  rintro e wn ⟨n, rfl, hn, hd, hu⟩
  replace D := Lib.hid hd
  replace U := Lib.hid ((U.out.alloc _).then1 hu)
  clear hd hu
  have hnb : 6 ≤ n ∧ n ≤ 24 := by simp at hn; omega
  clear hn
  go_wp2_with fail
  refine (l01Next_c g a c bs _ _ D.out).mono ?_
  rintro e wn ⟨x, rfl, hx, hd, hu⟩
  replace D := Lib.hid hd
  replace U := Lib.hid (U.out.then1 hu)
  clear hd hu
  have hxb : 0 ≤ x ∧ x ≤ 13 := by
    have h2 : n.tdiv 2 = n / 2 := Int.tdiv_eq_ediv_of_nonneg (by omega)
    omega
  clear hx
  go_wp2_with fail
  refine (l01Next_c g a c bs _ _ D.out).mono ?_
  rintro e wn ⟨y, rfl, hy, hd, hu⟩
  replace D := Lib.hid hd
  replace U := Lib.hid (U.out.then1 hu)
  clear hd hu
  go_wp2_with fail
  go_ret2
  exact ⟨_, _, rfl, UF.out.after0 U.out HgF.out⟩
end Go.Proofs.Ytdjdddepplaagaa
