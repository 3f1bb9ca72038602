/- The contracts of chapter 6: the usual lacing, shifts, rotations, moves. -/
import Derived.Test.YtiiljmaianfdeaaLac
namespace Go.Proofs.Ytiiljmaianfdeaa
open Go.RowKit
set_option linter.unusedVariables false
set_option linter.unusedSimpArgs false

/-- A list made step by step. -/
def upTo (f : Nat → List Int) : Nat → List Int
  | 0 => []
  | k + 1 => upTo f k ++ f k
theorem upTo_le {f : Nat → List Int} (h : ∀ k, (f k).length ≤ 1) (k : Nat) : (upTo f k).length ≤ k := by
  induction k with
  | zero => simp [upTo]
  | succ k ih => rw [upTo, List.length_append]; have := h k; omega
theorem upTo_one (g : Nat → Int) (k : Nat) : (upTo (fun i => [g i]) k).length = k := by
  induction k with
  | zero => rfl
  | succ k ih => rw [upTo, List.length_append, ih]; rfl
theorem upTo_get (g : Nat → Int) (k j : Nat) (h : j < k) : (upTo (fun i => [g i]) k)[j]? = some (g j) := by
  induction k with
  | zero => omega
  | succ k ih =>
    rw [upTo]
    by_cases e : j < k
    · rw [List.getElem?_append_left (by rw [upTo_one]; exact e)]; exact ih e
    · obtain rfl : j = k := by omega
      rw [List.getElem?_append_right (by rw [upTo_one]; omega), upTo_one]; simp
theorem lacAux_iff (n : Int) (t s : List Int) : lacAux n s t = true ↔ (∀ x, x ∈ t → 0 ≤ x ∧ x ≤ n - 1) ∧ (∀ x, x ∈ t → x ∉ s) ∧ t.Nodup := by
  induction t generalizing s with
  | nil => simp [lacAux]
  | cons x t ih =>
    rw [lacAux, Bool.and_eq_true, Bool.and_eq_true, ih]
    simp only [List.mem_append, List.mem_cons, List.nodup_cons, Bool.not_eq_true', hasB, decide_eq_false_iff_not]
    constructor
    · rintro ⟨⟨a, b⟩, c, d, e⟩
      refine ⟨?_, ?_, fun h => d x h (.inr (.inl rfl)), e⟩
      · rintro y (rfl | hy)
        · exact inB_t a
        · exact c y hy
      · rintro y (rfl | hy)
        · exact b
        · exact fun h => d y hy (.inl h)
    · rintro ⟨a, b, c, d⟩
      refine ⟨⟨inB_mk (a x (.inl rfl)), b x (.inl rfl)⟩, fun y hy => a y (.inr hy), fun y hy h => ?_, d⟩
      rcases h with h | h | h
      · exact b y (.inr hy) h
      · subst h; exact c hy
      · simp at h
theorem lacB_t {n : Int} {xs : List Int} (h : lacB n xs = true) : flB n = true ∧ (xs.length : Int) = n ∧ (∀ x, x ∈ xs → 0 ≤ x ∧ x ≤ n - 1) ∧ xs.Nodup := by
  simp only [lacB, Bool.and_eq_true, decide_eq_true_eq, lacAux_iff] at h
  exact ⟨h.1.1, h.1.2, h.2.1, h.2.2.2⟩
theorem lacB_mk {n : Int} {xs : List Int} (h1 : flB n = true) (h2 : (xs.length : Int) = n) (h3 : ∀ x, x ∈ xs → 0 ≤ x ∧ x ≤ n - 1) (h4 : xs.Nodup) : lacB n xs = true := by
  simp only [lacB, Bool.and_eq_true, decide_eq_true_eq, lacAux_iff]
  exact ⟨⟨h1, h2⟩, h3, by simp, h4⟩

/-! ### UsualLacing -/
def usF (n c : Int) (k : Nat) : Int := if k % 2 = 0 then ((k : Int) + c) % n else ((k : Int) - c) % n
def usualF (n c : Int) (k : Nat) : List Int := upTo (fun i => [usF n c i]) k
def usualL (n c : Int) : List Int := if flB n && inB c 0 (n / 2 - 1) then usualF n c n.toNat else []
def usualE (n c : Int) : Int := if flB n then (if inB c 0 (n / 2 - 1) then 0 else 2) else 1
theorem usF_cases (n c : Int) (k : Nat) : (((k : Int) % 2 == 0) = true ∧ ((k : Int) + c) % n = usF n c k) ∨ (((k : Int) % 2 == 0) = false ∧ ((k : Int) - c) % n = usF n c k) := by
  by_cases h : k % 2 = 0
  · left; exact ⟨by rw [beq_iff_eq]; omega, by rw [usF, if_pos h]⟩
  · right; exact ⟨by rw [beq_eq_false_iff_ne]; omega, by rw [usF, if_neg h]⟩
set_option maxHeartbeats 800000 in
theorem sUsualLacing_c (n c : Int) (w : World) :
    Calls Try.prog 55 #[.int .i64 n, .int .i64 c] w (NewIC w (usualL n c) (usualE n c)) := by
  cases h1 : flB n
  · have HE : Hid (usualL n c = [] ∧ usualE n c = 1) := by constructor <;> simp [usualL, usualE, h1]
    go_enter Try.func55, Try.ntmps55
    go_wp2_with (go_at_call 85; refine (l06Holes_c _ _).mono ?_; rintro e w1 ⟨rfl, hU⟩; have HU := Lib.hid hU; clear hU)
    go_ret2
    rw [HE.out.1, HE.out.2]
    exact ⟨_, rfl, OwnI.nil _ _, HU.out⟩
  · have hb := flB_bd h1
    cases h2 : inB c 0 (n / 2 - 1)
    · have HE : Hid (usualL n c = [] ∧ usualE n c = 2) := by constructor <;> simp [usualL, usualE, h1, h2]
      go_enter Try.func55, Try.ntmps55
      go_wp2_with (first | (go_at_call 85; refine (l06Holes_c _ _).mono ?_; rintro e w1 ⟨rfl, hU⟩; have HU := Lib.hid hU; clear hU) | (go_at_call 72; refine (l01In_c _ _ _ _).mono ?_; rintro e w' ⟨rfl, rfl⟩))
      go_ret2
      rw [HE.out.1, HE.out.2]
      exact ⟨_, rfl, OwnI.nil _ _, HU.out⟩
    · have HE : Hid (usualL n c = usualF n c n.toNat ∧ usualE n c = 0) := by constructor <;> simp [usualL, usualE, h1, h2]
      have hc := inB_t h2
      have hc2 : 0 ≤ c ∧ c ≤ 12 := by omega
      obtain ⟨m, rfl⟩ := Int.eq_ofNat_of_zero_le (show 0 ≤ n by omega)
      rw [Int.toNat_natCast] at HE
      go_enter Try.func55, Try.ntmps55
      go_wp2_with (first | (go_at_call 85; refine (l06Holes_c _ _).mono ?_; rintro e w1 ⟨rfl, hU⟩; have HU := Lib.hid hU; clear hU) | (go_at_call 72; refine (l01In_c _ _ _ _).mono ?_; rintro e w' ⟨rfl, rfl⟩))
      have HU0 := HU
      clear HU
      go_loopw [6, 7] (fun v i wr => ∃ k : Nat, k ≤ m ∧ i = .int .i64 k ∧ Hid (OwnI wr w.heap.size v (usualF m c k)) ∧ Hid (Upd [] w wr)) (fun _ i _ => m - (intOf i).toNat)
      case atStart => exact ⟨0, by omega, rfl, OwnI.lit HU0.out, (HU0.out).alloc _⟩
      case round =>
        clear HU0
        obtain ⟨k, hk, rfl, HO, HU⟩ := hrel
        by_cases hlt : k < m
        · have HL : (usualF m c k).length ≤ 24 := by unfold usualF; rw [upTo_one]; omega
          have HN : Hid (usualF m c (k + 1) = usualF m c k ++ [usF m c k]) := rfl
          rcases usF_cases m c k with ⟨hp, hv⟩ | ⟨hp, hv⟩
          all_goals
            go_wp2_with (first | (go_at_call 86; refine (l01Mod_c _ _ _ (by omega) (by omega)).mono ?_; rintro e w' ⟨rfl, rfl⟩) | (at_builtin; refine wpList_appI rfl _ _ rfl _ _ _ rfl rfl HO.out HU.out (by omega) ?_; intro v' w1 h1 h2; have H1 := Lib.hid h1; have H2 := Lib.hid h2; clear h1 h2))
            go_roundw
            case rel => exact ⟨k + 1, by omega, by go_num, by rw [HN.out]; exact H1, H2⟩
            case measure => simp [intOf]; omega
        · obtain rfl : k = m := by omega
          go_wp2
          go_ret2
          rw [HE.out.1, HE.out.2]
          exact ⟨_, rfl, HO.out, HU.out⟩

/-! ### Codes -/
def codeL (n : Int) (xs : List Int) (p : Int) : Int := if lacB n xs then (if inB p 0 (n - 1) then 0 else 2) else 1
theorem l06Code_c (n : Int) (a : Option Addr) (c : Nat) (xs : List Int) (p : Int) (w : World) (h : IntsAt w a xs) (hl : xs.length ≤ 1048576) (hcap : xs.length ≤ c) :
    Calls Try.prog 53 #[.int .i64 n, .slice a xs.length c, .int .i64 p] w fun e w' => e = .returned (.int .i64 (codeL n xs p)) ∧ Upd [] w w' := by
  have H := Lib.hid h; clear h
  cases h1 : lacB n xs
  · have HE : Hid (codeL n xs p = 1) := by show codeL _ _ _ = _; simp [codeL, h1]
    go_enter Try.func53, Try.ntmps53
    go_wp2_with (go_at_call 56; refine (sIsLacing_c _ _ _ _ _ H.out hl hcap).mono ?_; rintro e w1 ⟨rfl, hU⟩; have HU := Lib.hid hU; clear hU)
    go_ret
    exact ⟨ret_int HE.out.symm, HU.out⟩
  · have hb := flB_bd (lacB_t h1).1
    cases h2 : inB p 0 (n - 1)
    · have HE : Hid (codeL n xs p = 2) := by show codeL _ _ _ = _; simp [codeL, h1, h2]
      go_enter Try.func53, Try.ntmps53
      go_wp2_with (first | (go_at_call 72; refine (l01In_c _ _ _ _).mono ?_; rintro e w' ⟨rfl, rfl⟩) | (go_at_call 56; refine (sIsLacing_c _ _ _ _ _ H.out hl hcap).mono ?_; rintro e w1 ⟨rfl, hU⟩; have HU := Lib.hid hU; clear hU))
      go_ret
      exact ⟨ret_int HE.out.symm, HU.out⟩
    · have HE : Hid (codeL n xs p = 0) := by show codeL _ _ _ = _; simp [codeL, h1, h2]
      go_enter Try.func53, Try.ntmps53
      go_wp2_with (first | (go_at_call 72; refine (l01In_c _ _ _ _).mono ?_; rintro e w' ⟨rfl, rfl⟩) | (go_at_call 56; refine (sIsLacing_c _ _ _ _ _ H.out hl hcap).mono ?_; rintro e w1 ⟨rfl, hU⟩; have HU := Lib.hid hU; clear hU))
      go_ret
      exact ⟨ret_int HE.out.symm, HU.out⟩
end Go.Proofs.Ytiiljmaianfdeaa
