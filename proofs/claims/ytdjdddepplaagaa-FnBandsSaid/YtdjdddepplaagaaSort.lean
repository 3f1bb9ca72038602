/- Sorting by insertion: the plain steps, the contract of 'sorted', the spread. -/
import Derived.Test.YtdjdddepplaagaaTens
namespace Go.Proofs.Ytdjdddepplaagaa
open Go.RowKit
set_option linter.unusedVariables false
set_option linter.unusedSimpArgs false

def SameMem (ys xs : List Int) : Prop := ys.length = xs.length ∧ ∀ x, x ∈ ys ↔ x ∈ xs
/-- All of 0 .. i in order, but for what stands at k. -/
def InOrd (ys : List Int) (i k : Nat) : Prop := ∀ p q, p < q → q ≤ i → q ≠ k → ys.getD p 0 ≤ ys.getD q 0
def swapL (ys : List Int) (k : Nat) : List Int := (ys.set (k + 1) (ys.getD k 0)).set k (ys.getD (k + 1) 0)
theorem swapL_length (ys : List Int) (k : Nat) : (swapL ys k).length = ys.length := by simp [swapL]
theorem swapL_get (ys : List Int) (k : Nat) (h : k + 1 < ys.length) (j : Nat) : (swapL ys k).getD j 0 = if j = k then ys.getD (k + 1) 0 else if j = k + 1 then ys.getD k 0 else ys.getD j 0 := by
  simp only [swapL, List.getD_eq_getElem?_getD, List.getElem?_set, List.length_set]
  by_cases h1 : j = k
  · subst h1; simp [show j < ys.length by omega]
  · by_cases h2 : j = k + 1
    · subst h2; simp [h]
    · simp [h1, h2, show ¬ k = j by omega, show ¬ k + 1 = j by omega]
theorem mem_getD {ys : List Int} {x : Int} : x ∈ ys ↔ ∃ j, j < ys.length ∧ ys.getD j 0 = x := by
  constructor
  · intro h
    obtain ⟨j, hj, e⟩ := List.mem_iff_getElem.1 h
    exact ⟨j, hj, by simp [List.getD_eq_getElem?_getD, hj, e]⟩
  · rintro ⟨j, hj, e⟩
    rw [← e, List.getD_eq_getElem?_getD, List.getElem?_eq_getElem hj]
    exact List.getElem_mem hj
theorem swapL_mem {ys xs : List Int} {k : Nat} (h : k + 1 < ys.length) (hs : SameMem ys xs) : SameMem (swapL ys k) xs := by
  refine ⟨by rw [swapL_length]; exact hs.1, fun x => ?_⟩
  rw [← hs.2 x, mem_getD, mem_getD, swapL_length]
  constructor
  · rintro ⟨j, hj, e⟩
    rw [swapL_get _ _ h] at e
    by_cases h1 : j = k
    · rw [if_pos h1] at e; exact ⟨k + 1, h, e⟩
    · rw [if_neg h1] at e
      by_cases h2 : j = k + 1
      · rw [if_pos h2] at e; exact ⟨k, by omega, e⟩
      · rw [if_neg h2] at e; exact ⟨j, hj, e⟩
  · rintro ⟨j, hj, e⟩
    by_cases h1 : j = k
    · exact ⟨k + 1, h, by rw [swapL_get _ _ h, if_neg (by omega), if_pos rfl, ← h1]; exact e⟩
    · by_cases h2 : j = k + 1
      · exact ⟨k, by omega, by rw [swapL_get _ _ h, if_pos rfl, ← h2]; exact e⟩
      · exact ⟨j, hj, by rw [swapL_get _ _ h, if_neg h1, if_neg h2]; exact e⟩
theorem InOrd.swap {ys : List Int} {i k : Nat} (h : InOrd ys i (k + 1)) (hk : k + 1 ≤ i) (hi : i < ys.length) (hlt : ys.getD (k + 1) 0 < ys.getD k 0) : InOrd (swapL ys k) i k := by
  intro p q hpq hq hne
  have hkl : k + 1 < ys.length := by omega
  rw [swapL_get _ _ hkl, swapL_get _ _ hkl, if_neg hne]
  by_cases hq1 : q = k + 1
  · rw [if_pos hq1]
    by_cases hp : p = k
    · rw [if_pos hp]; omega
    · rw [if_neg hp, if_neg (by omega)]
      exact h p k (by omega) (by omega) (by omega)
  · rw [if_neg hq1]
    by_cases hp : p = k
    · rw [if_pos hp]; exact h (k + 1) q (by omega) hq hq1
    · rw [if_neg hp]
      by_cases hp1 : p = k + 1
      · rw [if_pos hp1]; exact h k q (by omega) hq hq1
      · rw [if_neg hp1]; exact h p q hpq hq hq1
theorem InOrd.done {ys : List Int} {i k : Nat} (h : InOrd ys i k) (hk : k ≤ i) (he : k = 0 ∨ ys.getD (k - 1) 0 ≤ ys.getD k 0) : InOrd ys i (i + 1) := by
  intro p q hpq hq _
  by_cases hqk : q = k
  · subst hqk
    rcases he with he | he
    · omega
    · by_cases hp : p = q - 1
      · rw [hp]; exact he
      · have := h p (q - 1) (by omega) (by omega) (by omega); omega
  · exact h p q hpq hq hqk
theorem InOrd.next {ys : List Int} {i : Nat} (h : InOrd ys i (i + 1)) : InOrd ys (i + 1) (i + 1) := fun p q hpq hq hne => h p q hpq (by omega) hne
/-- A new slice with the same numbers in order. -/
def NewSorted (w : World) (xs : List Int) (e : Ending) (w' : World) : Prop :=
  ∃ v ys, e = .returned v ∧ OwnI w' w.heap.size v ys ∧ Upd [] w w' ∧ SameMem ys xs ∧ ∀ p q, p ≤ q → q < ys.length → ys.getD p 0 ≤ ys.getD q 0
set_option maxHeartbeats 800000 in
theorem sorted_c (ad : Addr) (c : Nat) (xs : List Int) (w : World) (h : IntsAt w (some ad) xs) (hl : xs.length ≤ 1048576) (hne : 0 < xs.length) :
    Calls Try.prog 120 #[.slice (some ad) xs.length c] w (NewSorted w xs) := by
  have H := Lib.hid h; clear h
  go_enter Try.func120, Try.ntmps120
  go_wp2_with (go_at_call 102; refine (copyList_c _ _ _ _ H.out hl).mono ?_; rintro e w1 ⟨v, rfl, hO, hU⟩; obtain ⟨g, cap, rfl, hg1, hg2⟩ := hO.row hne; have HO := Lib.hid hO; have HU := Lib.hid hU; clear hO hU)
  have HS0 : Hid (∃ ys, OwnI w1 w.heap.size (.slice (some ⟨g, 0, none⟩) xs.length cap) ys ∧ SameMem ys xs ∧ InOrd ys 0 0) := ⟨xs, HO.out, ⟨rfl, fun _ => Iff.rfl⟩, fun p q h1 h2 h3 => by omega⟩
  clear HO
  go_loopw [11] (fun i wr => ∃ k : Nat, k ≤ xs.length ∧ i = .int .i64 k ∧ Hid (∃ ys, OwnI wr w.heap.size (.slice (some ⟨g, 0, none⟩) xs.length cap) ys ∧ SameMem ys xs ∧ InOrd ys k k) ∧ Hid (Upd [] w wr)) (fun i _ => xs.length - (intOf i).toNat)
  case atStart => exact ⟨0, by omega, rfl, HS0, HU⟩
  case round =>
    clear HS0 HU
    obtain ⟨i, hi, rfl, HS, HU⟩ := hrel
    by_cases hlt : i < xs.length
    · obtain ⟨wo, ewo⟩ : ∃ wo : World, wo = wr := ⟨_, rfl⟩
      subst ewo
      go_wp2
      go_loopw [5] (fun m wr => ∃ k : Nat, k ≤ i ∧ m = .int .i64 k ∧ Hid (∃ ys, OwnI wr w.heap.size (.slice (some ⟨g, 0, none⟩) xs.length cap) ys ∧ SameMem ys xs ∧ InOrd ys i k) ∧ Hid (Upd [] w wr)) (fun m _ => (intOf m).toNat)
      case atStart => exact ⟨i, by omega, rfl, HS, HU⟩
      case round =>
        clear HS HU
        obtain ⟨k, hk, rfl, HS, HU⟩ := hrel
        by_cases hk0 : k = 0
        · have hd : decide (0 < k) = false := by rw [hk0]; rfl
          have HN : Hid (∃ ys, OwnI (wr) w.heap.size (.slice (some ⟨g, 0, none⟩) xs.length cap) ys ∧ SameMem ys xs ∧ InOrd ys (i + 1) (i + 1)) := by
            obtain ⟨ys, h1, h2, h3⟩ := HS.out
            exact ⟨ys, h1, h2, (h3.done hk (.inl hk0)).next⟩
          clear hk0
          go_wp2
          go_quiet (fail)
          go_wp2
          go_roundw
          case rel => exact ⟨i + 1, by omega, by go_num, by obtain ⟨ys, h1, h2, h3⟩ := HN.out; exact ⟨ys, h1.kept0 ((Upd.refl _).drewN _), h2, h3⟩, (HU.out).drewN _⟩
          case measure => simp [intOf]; omega
        · obtain ⟨ys, h1, h2, h3⟩ := HS.out
          have hkl : k < ys.length := by have := h2.1; omega
          obtain ⟨x, hx⟩ : ∃ x, ys[k - 1]? = some x := ⟨_, List.getElem?_eq_getElem (by omega)⟩
          obtain ⟨y, hy⟩ : ∃ y, ys[k]? = some y := ⟨_, List.getElem?_eq_getElem hkl⟩
          have gx : ys.getD (k - 1) 0 = x := by rw [List.getD_eq_getElem?_getD, hx]; rfl
          have gy : ys.getD k 0 = y := by rw [List.getD_eq_getElem?_getD, hy]; rfl
          have hcx := h1.cell hx
          have hcy := h1.cell hy
          have i0 : 0 < k := by omega
          have i1 : (0 : Int) ≤ (k : Int) - 1 := by omega
          have i2 : (k : Int) - 1 < (xs.length : Int) := by omega
          have i3 : (k : Int) < (xs.length : Int) := by omega
          by_cases hxy : y < x
          · have HN : Hid (InOrd (swapL ys (k - 1)) i (k - 1) ∧ SameMem (swapL ys (k - 1)) xs) := by
              have ek : k = k - 1 + 1 := by omega
              rw [ek] at h3 gy
              exact ⟨h3.swap (by omega) (by have := h2.1; omega) (by rw [gx, gy]; exact hxy), swapL_mem (by omega) h2⟩
            have HO := Lib.hid h1
            have HGX : Hid (swapL ys (k - 1) = (ys.set k x).set (k - 1) y) := by
              show swapL _ _ = _
              rw [swapL, show k - 1 + 1 = k by omega, gx, gy]
            clear h1 h2 h3 gx gy HS
            go_wp2
            go_quiet (fail)
            have HU2 : Hid (Upd [] w (wr.drewN nq)) := (HU.out).drewN _
            have HO2 : Hid (OwnI (wr.drewN nq) w.heap.size (.slice (some ⟨g, 0, none⟩) xs.length cap) ys) := HO.out.kept0 ((Upd.refl _).drewN _)
            clear HU HO hcx hcy
            generalize wr.drewN nq = w2 at HU2 HO2 ⊢
            have hcx := HO2.out.cell hx
            have hcy := HO2.out.cell hy
            have hfy := HO2.out.free k
            have hO3 := HO2.out.set k x hkl
            have hx3 : (ys.set k x)[k - 1]? = some x := by rw [List.getElem?_set, if_neg (by omega)]; exact hx
            have hcx3 := hO3.cell hx3
            have hfx3 := hO3.free (k - 1)
            have hO4 := hO3.set (k - 1) y (by simp; omega)
            have HO4 : Hid (OwnI ((w2.setCell ⟨g, k, none⟩ (.int .i64 x)).setCell ⟨g, k - 1, none⟩ (.int .i64 y)) w.heap.size (.slice (some ⟨g, 0, none⟩) xs.length cap) (swapL ys (k - 1))) := by rw [show swapL ys (k - 1) = _ from HGX]; exact hO4
            have HU4 : Hid (Upd [] w ((w2.setCell ⟨g, k, none⟩ (.int .i64 x)).setCell ⟨g, k - 1, none⟩ (.int .i64 y))) := ((HU2.out).setCell _ (.inr hg1)).setCell _ (.inr hg1)
            have HX := Lib.hid hx
            have HY := Lib.hid hy
            clear hO3 hO4 hx3 hx hy
            go_wp2
            go_roundw
            case rel => exact ⟨k - 1, by omega, by go_num, ⟨_, HO4.out, HN.out.2, HN.out.1⟩, HU4⟩
            case measure => simp [intOf]; omega
          · have HN : Hid (∃ ys, OwnI wr w.heap.size (.slice (some ⟨g, 0, none⟩) xs.length cap) ys ∧ SameMem ys xs ∧ InOrd ys (i + 1) (i + 1)) :=
              ⟨ys, h1, h2, (h3.done hk (.inr (by rw [gx, gy]; omega))).next⟩
            have hd : decide (y < x) = false := by simpa using hxy
            clear h1 h2 h3 gx gy HS hx hy
            go_wp2
            go_quiet (fail)
            go_wp2
            go_roundw
            case rel => exact ⟨i + 1, by omega, by go_num, by obtain ⟨ys, h1, h2, h3⟩ := HN.out; exact ⟨ys, h1.kept0 ((Upd.refl _).drewN _), h2, h3⟩, (HU.out).drewN _⟩
            case measure => simp [intOf]; omega
    · obtain rfl : i = xs.length := by omega
      go_wp2
      go_ret
      obtain ⟨ys, h1, h2, h3⟩ := HS.out
      refine ⟨_, ys, rfl, h1, HU.out, h2, fun p q h4 h5 => ?_⟩
      by_cases e : p = q
      · rw [e]; omega
      · exact h3 p q (by omega) (by have := h2.1; omega) (by have := h2.1; omega)
/-! ### The spread -/
def IsMin (xs : List Int) (m : Int) : Prop := m ∈ xs ∧ ∀ x, x ∈ xs → m ≤ x
def IsMax (xs : List Int) (m : Int) : Prop := m ∈ xs ∧ ∀ x, x ∈ xs → x ≤ m
theorem IsMin.uniq {xs : List Int} {a b : Int} (h : IsMin xs a) (k : IsMin xs b) : a = b := by have := h.2 b k.1; have := k.2 a h.1; omega
theorem IsMax.uniq {xs : List Int} {a b : Int} (h : IsMax xs a) (k : IsMax xs b) : a = b := by have := h.2 b k.1; have := k.2 a h.1; omega
def minF : List Int → Int
  | [] => 0
  | [x] => x
  | x :: y :: t => min x (minF (y :: t))
def maxF : List Int → Int
  | [] => 0
  | [x] => x
  | x :: y :: t => max x (maxF (y :: t))
theorem minF_is (xs : List Int) (h : 0 < xs.length) : IsMin xs (minF xs) := by
  match xs, h with
  | [x], _ => simp [IsMin, minF]
  | x :: y :: t, _ =>
    obtain ⟨h1, h2⟩ := minF_is (y :: t) (by simp)
    rw [minF]
    refine ⟨?_, fun z hz => ?_⟩
    · by_cases e : x ≤ minF (y :: t)
      · rw [Int.min_eq_left e]; simp
      · rw [Int.min_eq_right (by omega)]; exact List.mem_cons_of_mem _ h1
    · rcases List.mem_cons.1 hz with rfl | hz
      · omega
      · have := h2 z hz; omega
theorem maxF_is (xs : List Int) (h : 0 < xs.length) : IsMax xs (maxF xs) := by
  match xs, h with
  | [x], _ => simp [IsMax, maxF]
  | x :: y :: t, _ =>
    obtain ⟨h1, h2⟩ := maxF_is (y :: t) (by simp)
    rw [maxF]
    refine ⟨?_, fun z hz => ?_⟩
    · by_cases e : x ≤ maxF (y :: t)
      · rw [Int.max_eq_right e]; exact List.mem_cons_of_mem _ h1
      · rw [Int.max_eq_left (by omega)]; simp
    · rcases List.mem_cons.1 hz with rfl | hz
      · omega
      · have := h2 z hz; omega
def spreadF (xs : List Int) : Int := maxF xs - minF xs
def spreadV (xs : List Int) : Int := if areB xs 0 3000 4 48 then spreadF xs else 0
theorem sorted_ends {ys xs : List Int} (hs : SameMem ys xs) (h : ∀ p q, p ≤ q → q < ys.length → ys.getD p 0 ≤ ys.getD q 0) (hn : 0 < ys.length) : IsMin xs (ys.getD 0 0) ∧ IsMax xs (ys.getD (ys.length - 1) 0) := by
  refine ⟨⟨(hs.2 _).1 (mem_getD.2 ⟨0, hn, rfl⟩), fun x hx => ?_⟩, ⟨(hs.2 _).1 (mem_getD.2 ⟨_, by omega, rfl⟩), fun x hx => ?_⟩⟩
  · obtain ⟨j, hj, rfl⟩ := mem_getD.1 ((hs.2 x).2 hx); exact h 0 j (by omega) hj
  · obtain ⟨j, hj, rfl⟩ := mem_getD.1 ((hs.2 x).2 hx); exact h j _ (by omega) (by omega)
set_option maxHeartbeats 400000 in
theorem iSpreadOf_c (a : Option Addr) (c : Nat) (xs : List Int) (w : World) (h : IntsAt w a xs) (hl : xs.length ≤ 1048576) :
    Calls Try.prog 59 #[.slice a xs.length c] w fun e w' => e = .returned (.tuple #[.int .i64 (spreadV xs), .int .i64 (sumE xs)]) ∧ Upd [] w w' := by
  cases h1 : areB xs 0 3000 4 48
  · have H := Lib.hid h; clear h
    have HE : Hid (spreadV xs = 0 ∧ sumE xs = 1) := by constructor <;> simp [spreadV, sumE, h1]
    go_enter Try.func59, Try.ntmps59
    go_wp2_with (go_at_call 52; refine (iAreTensions_c _ _ _ _ H.out hl).mono ?_; rintro e w' ⟨rfl, rfl⟩)
    go_ret2
    exact ⟨ret_int2 HE.out.1.symm HE.out.2.symm, Upd.refl w⟩
  · have HE : Hid (spreadV xs = spreadF xs ∧ sumE xs = 0) := by constructor <;> simp [spreadV, sumE, h1]
    obtain ⟨hb, hs, hn1, hn2, hm⟩ := tens_bd h1
    have hne : 0 < xs.length := by omega
    obtain ⟨b, off, x, rfl, -, -⟩ := h.get hne
    have HB := Lib.hid hb; clear hb
    have H := Lib.hid h; clear h
    go_enter Try.func59, Try.ntmps59
    go_wp2_with (go_at_call 52; refine (iAreTensions_c _ _ _ _ H.out hl).mono ?_; rintro e w' ⟨rfl, rfl⟩)
    refine (sorted_c _ _ _ _ H.out hl hne).mono ?_
    rintro e w1 ⟨v, ys, rfl, hO, hU, ⟨hM1, hM2⟩, hS⟩
    obtain ⟨g, cap, rfl, hg1, hg2⟩ := hO.row (by omega)
    have HO := Lib.hid hO
    have HU := Lib.hid hU
    have HM := Lib.hid hM2
    have HS := Lib.hid hS
    have HL := Lib.hid hM1
    have hyl : 4 ≤ (ys.length : Int) ∧ (ys.length : Int) ≤ 48 := by constructor <;> omega
    clear hO hU hM2 hS hM1
    obtain ⟨x0, hx0⟩ : ∃ x, ys[0]? = some x := ⟨_, List.getElem?_eq_getElem (by omega)⟩
    obtain ⟨x1, hx1⟩ : ∃ x, ys[ys.length - 1]? = some x := ⟨_, List.getElem?_eq_getElem (by omega)⟩
    have hc0 := HO.out.cell hx0
    have hc1 := HO.out.cell hx1
    have HV : Hid (spreadF xs = x1 - x0) := by
      obtain ⟨m1, m2⟩ := sorted_ends ⟨HL.out, HM.out⟩ HS.out (by omega)
      show spreadF xs = _
      rw [spreadF, m1.uniq (minF_is xs hne) |>.symm, m2.uniq (maxF_is xs hne) |>.symm, List.getD_eq_getElem?_getD, List.getD_eq_getElem?_getD, hx0, hx1]; rfl
    have b0 := HB.out x0 ((HM.out x0).1 (mem_of_get hx0))
    have b1 := HB.out x1 ((HM.out x1).1 (mem_of_get hx1))
    have i1 : (0 : Int) ≤ (ys.length : Int) - 1 := by omega
    have i2 : (ys.length : Int) - 1 < (ys.length : Int) := by omega
    have i3 : (0 : Int) < (ys.length : Int) := by omega
    clear hx0 hx1
    go_wp2
    go_quiet (fail)
    go_wp2
    go_ret2
    exact ⟨ret_int2 (by rw [HE.out.1, HV.out]) HE.out.2.symm, (HU.out).drewN _⟩
def Span (xs : List Int) (k : Nat) (lo hi : Int) : Prop := lo ∈ xs ∧ hi ∈ xs ∧ ∀ j x, j < k → xs[j]? = some x → lo ≤ x ∧ x ≤ hi
theorem Span.step {xs : List Int} {k : Nat} {lo hi x lo' hi' : Int} (h : Span xs k lo hi) (hx : xs[k]? = some x) (h1 : lo' = lo ∨ lo' = x) (h2 : hi' = hi ∨ hi' = x) (h3 : lo' ≤ lo ∧ lo' ≤ x ∧ hi ≤ hi' ∧ x ≤ hi') : Span xs (k + 1) lo' hi' := by
  obtain ⟨a, b, c⟩ := h
  refine ⟨?_, ?_, fun j y hj hy => ?_⟩
  · rcases h1 with rfl | rfl
    · exact a
    · exact mem_of_get hx
  · rcases h2 with rfl | rfl
    · exact b
    · exact mem_of_get hx
  · by_cases e : j = k
    · subst e; rw [hx] at hy; cases hy; omega
    · have := c j y (by omega) hy; omega
theorem Span.done {xs : List Int} {lo hi : Int} (h : Span xs xs.length lo hi) (hne : 0 < xs.length) : spreadF xs = hi - lo := by
  obtain ⟨a, b, c⟩ := h
  have m1 : IsMin xs lo := ⟨a, fun x hx => by obtain ⟨j, hj, e⟩ := List.mem_iff_getElem.1 hx; exact (c j x hj (by rw [List.getElem?_eq_getElem hj, e])).1⟩
  have m2 : IsMax xs hi := ⟨b, fun x hx => by obtain ⟨j, hj, e⟩ := List.mem_iff_getElem.1 hx; exact (c j x hj (by rw [List.getElem?_eq_getElem hj, e])).2⟩
  rw [spreadF, m1.uniq (minF_is xs hne), m2.uniq (maxF_is xs hne)]
set_option maxHeartbeats 400000 in
theorem sSpreadOf_c (a : Option Addr) (c : Nat) (xs : List Int) (w : World) (h : IntsAt w a xs) (hl : xs.length ≤ 1048576) :
    Calls Try.prog 60 #[.slice a xs.length c] w fun e w' => e = .returned (.tuple #[.int .i64 (spreadV xs), .int .i64 (sumE xs)]) ∧ Upd [] w w' := by
  cases h1 : areB xs 0 3000 4 48
  · have H := Lib.hid h; clear h
    have HE : Hid (spreadV xs = 0 ∧ sumE xs = 1) := by constructor <;> simp [spreadV, sumE, h1]
    go_enter Try.func60, Try.ntmps60
    go_wp2_with (go_at_call 109; refine (sAreTensions_c _ _ _ _ H.out hl).mono ?_; rintro e w' ⟨rfl, rfl⟩)
    go_ret2
    exact ⟨ret_int2 HE.out.1.symm HE.out.2.symm, Upd.refl w⟩
  · have HE : Hid (spreadV xs = spreadF xs ∧ sumE xs = 0) := by constructor <;> simp [spreadV, sumE, h1]
    obtain ⟨hb, hs, hn1, hn2, hm⟩ := tens_bd h1
    have hne : 0 < xs.length := by omega
    obtain ⟨b, off, x0, rfl, hc0, hx0⟩ := h.get hne
    rw [Nat.add_zero] at hc0
    have HB := Lib.hid hb; clear hb
    have H := Lib.hid h; clear h
    go_enter Try.func60, Try.ntmps60
    go_wp2_with (go_at_call 109; refine (sAreTensions_c _ _ _ _ H.out hl).mono ?_; rintro e w' ⟨rfl, rfl⟩)
    go_quiet (fail)
    go_wp2
    go_loopw [4, 5, 6] (fun l m i wr => ∃ (k : Nat) (lo hi : Int), k ≤ xs.length ∧ i = .int .i64 k ∧ l = .int .i64 lo ∧ m = .int .i64 hi ∧ Hid (Span xs k lo hi) ∧ Hid (Upd [] w wr)) (fun _ _ i _ => xs.length - (intOf i).toNat)
    case atStart => exact ⟨0, x0, x0, by omega, rfl, rfl, rfl, ⟨mem_of_get hx0.out, mem_of_get hx0.out, fun j x hj => by omega⟩, (Upd.refl w).drewN _⟩
    case round =>
      obtain ⟨k, lo, hi, hk, rfl, rfl, rfl, HS, HU⟩ := hrel
      have b1 := HB.out lo HS.out.1
      have b2 := HB.out hi HS.out.2.1
      by_cases hlt : k < xs.length
      · obtain ⟨b', off', x, e, hc, hx⟩ := (H.out.kept0 HU.out).get hlt
        cases e
        have hx1 := HB.out x (mem_of_get hx.out)
        have HN : Hid (Span xs (k + 1) (if x < lo then x else lo) (if hi < x then x else hi)) :=
          HS.out.step hx.out (by split <;> simp) (by split <;> simp) (by split <;> split <;> omega)
        go_wp2
        go_roundw
        case rel => exact ⟨k + 1, _, _, by omega, by go_num, rfl, rfl, HN, HU⟩
        case measure => simp [intOf]; omega
      · obtain rfl : k = xs.length := by omega
        have HN := Lib.hid (HS.out.done hne)
        go_wp2
        go_ret2
        exact ⟨ret_int2 (by rw [HE.out.1, HN.out]) HE.out.2.symm, HU.out⟩
end Go.Proofs.Ytdjdddepplaagaa
