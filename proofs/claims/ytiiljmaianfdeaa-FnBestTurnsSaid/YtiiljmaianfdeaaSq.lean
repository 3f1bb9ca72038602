/- The contracts of chapter 8: sums of squares. -/
import Derived.Test.YtiiljmaianfdeaaAfter2
namespace Go.Proofs.Ytiiljmaianfdeaa
open Go.RowKit
set_option linter.unusedVariables false
set_option linter.unusedSimpArgs false

/-- The sum of the squares. -/
def isq (xs : List Int) : Int := isum (xs.map fun x => x * x)
theorem isq_step {xs : List Int} {k : Nat} {x : Int} (h : xs[k]? = some x) : isq (xs.take (k + 1)) = isq (xs.take k) + x * x := by
  rw [take_step h]; simp [isq, isum_append, isum]
theorem sq_bd {x : Int} (h : -100000 ≤ x ∧ x ≤ 100000) : -10000000000 ≤ x * x ∧ x * x ≤ 10000000000 := by have := mul_bd h h; omega
theorem isq_bd {xs : List Int} (h : AllLe 100000 xs) (hl : (xs.length : Int) ≤ 48) (k : Nat) : -480000000000 ≤ isq (xs.take k) ∧ isq (xs.take k) ≤ 480000000000 := by
  have := isum_take_bd 10000000000 480000000000 (by omega) (xs.map fun x => x * x) (fun y hy => by
    obtain ⟨x, hx, rfl⟩ := List.mem_map.1 hy; exact sq_bd (h x hx)) (by rw [List.length_map]; omega) k
  rwa [← List.map_take] at this
theorem squares_n (a : Option Addr) (c n : Nat) (xs : List Int) (w : World) (e : xs.length = n) (h : IntsAt w a xs) (hl : (n : Int) ≤ 48) (hb : AllLe 100000 xs) :
    Calls Try.prog 89 #[.slice a n c] w fun e w' => e = .returned (.int .i64 (isq xs)) ∧ w = w' := by
  subst e
  have H := Lib.hid h; clear h
  have HB := Lib.hid hb
  have HS : Hid (∀ k, -480000000000 ≤ isq (xs.take k) ∧ isq (xs.take k) ≤ 480000000000) := fun k => isq_bd hb hl k
  clear hb
  go_enter Try.func89, Try.ntmps89
  go_wp2
  go_loop [3, 8] (fun s i => ∃ k : Nat, k ≤ xs.length ∧ i = .int .i64 k ∧ s = .int .i64 (isq (xs.take k))) (fun _ i => xs.length - (intOf i).toNat)
  case atStart => exact ⟨0, by omega, rfl, rfl⟩
  case round =>
    obtain ⟨k, hk, rfl, rfl⟩ := hrel
    by_cases hlt : k < xs.length
    · obtain ⟨b, off, x, rfl, hc, hx⟩ := H.out.get hlt
      have hx1 := HB.out x (mem_of_get hx.out)
      have hx2 := sq_bd hx1
      have hs1 := HS.out k
      have HN := Lib.hid (isq_step hx.out)
      go_wp2
      go_round
      case rel => exact ⟨k + 1, by omega, by go_num, by rw [HN.out]⟩
      case measure => simp [intOf]; omega
    · obtain rfl : k = xs.length := by omega
      go_wp2
      go_ret
      exact ⟨ret_int (by simp), rfl⟩
theorem l08Squares_n (a : Option Addr) (c n : Nat) (xs : List Int) (w : World) (e : xs.length = n) (h : IntsAt w a xs) (hl : (n : Int) ≤ 48) (hb : AllLe 100000 xs) :
    Calls Try.prog 90 #[.slice a n c] w fun e w' => e = .returned (.int .i64 (isq xs)) ∧ Dr w w' := by
  subst e
  have H : Hid (∀ w', Dr w w' → IntsAt w' a xs) := fun w' d => h.dr d
  clear h
  have HB := Lib.hid hb
  have HS : Hid (∀ k, -480000000000 ≤ isq (xs.take k) ∧ isq (xs.take k) ≤ 480000000000) := fun k => isq_bd hb hl k
  clear hb
  go_enter Try.func90, Try.ntmps90
  go_wp2
  go_loopw [3, 4] (fun s i wr => ∃ k : Nat, k ≤ xs.length ∧ i = .int .i64 k ∧ s = .int .i64 (isq (xs.take k)) ∧ Hid (Dr w wr)) (fun _ i _ => xs.length - (intOf i).toNat)
  case atStart => exact ⟨0, by omega, rfl, rfl, Dr.refl w⟩
  case round =>
    obtain ⟨k, hk, rfl, rfl, HD⟩ := hrel
    by_cases hlt : k < xs.length
    · obtain ⟨b, off, x, rfl, hc, hx⟩ := (H.out _ HD.out).get hlt
      have hx1 := HB.out x (mem_of_get hx.out)
      have hx2 := sq_bd hx1
      have hs1 := HS.out k
      have HN := Lib.hid (isq_step hx.out)
      have i1 : (k : Int) < (xs.length : Int) := by omega
      have HR : Hid (∀ nq, Dr w (wr.drewN nq)) := fun nq => HD.out.drewN nq
      obtain ⟨s, hs⟩ : ∃ s, isq (xs.take k) = s := ⟨_, rfl⟩
      rw [hs] at hs1 ⊢
      have hw1 : IntKind.i64.wrap (x * x) = x * x := IntWalk.i64_in _ (by omega)
      have hw2 : IntKind.i64.wrap (s + x * x) = s + x * x := IntWalk.i64_in _ (by omega)
      have HE := Lib.hid (show _ ∧ _ ∧ _ from ⟨hs, hw1, hw2⟩)
      clear hs hw1 hw2
      go_wp2
      obtain ⟨hs, hw1, hw2⟩ := HE.out
      clear hs
      go_quiet (fail)
      clear hw1 hw2
      go_wp2
      all_goals go_roundw
      all_goals (first | exact ⟨k + 1, by omega, by go_num, by rw [HN.out, HE.out.1], HR.out _⟩ | (simp [intOf]; omega))
    · obtain rfl : k = xs.length := by omega
      go_wp2
      go_ret
      exact ⟨ret_int (by simp), HD.out⟩
end Go.Proofs.Ytiiljmaianfdeaa
