/- The contracts of chapter 7: TurnNipple. -/
import Derived.Test.YtabecnpdoicajaaTurnAll
namespace Go.Proofs.Ytabecnpdoicajaa
open Go.RowKit
set_option linter.unusedVariables false
set_option linter.unusedSimpArgs false

/-! ### One nipple alone -/
def oneF (n k : Nat) (q : Int) : List Int := (List.replicate n 0).set k q
theorem oneF_length (n k : Nat) (q : Int) : (oneF n k q).length = n := by simp [oneF]
theorem turnAux_zeros (ws : List Int) (n i : Nat) (l : List Int) : turnAux ws i (List.replicate n 0) l = l := by
  induction n generalizing i with
  | zero => rfl
  | succ n ih => rw [List.replicate_succ, turnAux, spread_zero, ih]
theorem turnAux_one (ws : List Int) (n k i : Nat) (q : Int) (l : List Int) (h : k < n) : turnAux ws i (oneF n k q) l = spread l ws (i + k : Nat) q := by
  induction n generalizing k i with
  | zero => omega
  | succ n ih =>
    cases k with
    | zero => rw [oneF, List.replicate_succ, List.set_cons_zero, turnAux, turnAux_zeros]; simp
    | succ k =>
      have e : oneF (n + 1) (k + 1) q = 0 :: oneF n k q := by simp [oneF, List.replicate_succ]
      rw [e, turnAux, spread_zero, ih k (i + 1) (by omega), show i + 1 + k = i + (k + 1) by omega]
theorem turnF_one (l ws : List Int) (k : Nat) (q : Int) (h : k < l.length) : turnF l ws (oneF l.length k q) = spread l ws k q := by
  rw [turnF, turnAux_one _ _ _ _ _ _ h, Nat.zero_add]
theorem allB_one (n k : Nat) (q : Int) (h : k < n) : allB (oneF n k q) (-100) 100 = inB q (-100) 100 := by
  cases e : inB q (-100) 100
  · exact allB_f (k := k) (x := q) (by simp [oneF, h]) e
  · refine allB_mk fun x hx => ?_
    rcases List.mem_or_eq_of_mem_set hx with h1 | h1
    · have := List.eq_of_mem_replicate h1; omega
    · subst h1; exact inB_t e
def placeB (xs : List Int) (k : Int) : Bool := inB k 0 ((xs.length : Int) - 1)
def nipL (xs s : List Int) (k q : Int) : List Int := if tfmB2 xs s then (if placeB xs k then taL xs s (oneF xs.length k.toNat q) else []) else []
def nipE (xs s : List Int) (k q : Int) : Int := if tfmB2 xs s then (if placeB xs k then taE xs s (oneF xs.length k.toNat q) else 2) else 1
set_option maxHeartbeats 400000 in
theorem l07One_c (n k : Nat) (q : Int) (w : World) (hn : (n : Int) ≤ 48) (hk : k < n) :
    Calls Try.prog 54 #[.int .i64 (n : Int), .int .i64 (k : Int), .int .i64 q] w (NewI w (oneF n k q)) := by
  have i1 : (k : Int) < (n : Int) := by omega
  go_enter Try.func54, Try.ntmps54
  go_wp2_with (at_make; refine wpList_mkI rfl _ _ rfl .i64 .i64 n rfl rfl (by omega) (Upd.refl w) ?_; intro w1 h1 h2 h3; have hc := h1.cell (k := k) (x := 0) (by simp [hk]); have hf := h1.free k; have HO := Lib.hid (h1.set k q (by simpa using hk)); have HU := Lib.hid (h2.setCell (p := ⟨w.heap.size, k, none⟩) (.int .i64 q) (.inr (Nat.le_refl _))); clear h1 h2 h3)
  go_ret
  exact ⟨_, rfl, HO.out, HU.out⟩
set_option maxHeartbeats 400000 in
theorem sTurnNipple_c (a b : Option Addr) (ca cb : Nat) (xs s : List Int) (k q : Int) (w : World) (h : IntsAt w a xs) (hs : IntsAt w b s) (hl : xs.length ≤ 1048576) (hl2 : s.length ≤ 1048576) :
    Calls Try.prog 35 #[.slice a xs.length ca, .slice b s.length cb, .int .i64 k, .int .i64 q] w (NewIC w (nipL xs s k q) (nipE xs s k q)) := by
  have H := Lib.hid (show _ ∧ _ from ⟨h, hs⟩)
  clear h hs
  cases h1 : areB xs 0 3000 4 48
  · have HE : Hid (nipL xs s k q = [] ∧ nipE xs s k q = 1) := by constructor <;> simp [nipL, nipE, tfmB2, h1]
    go_enter Try.func35, Try.ntmps35
    go_wp2_with (go_at_call 13; refine (sAreTensions_c _ _ _ _ H.out.1 hl).mono ?_; rintro e w' ⟨rfl, rfl⟩)
    go_ret2
    rw [HE.out.1, HE.out.2]
    exact ⟨_, rfl, OwnI.nil _ _, Upd.refl w⟩
  · cases h1b : stiffB s
    · have HE : Hid (nipL xs s k q = [] ∧ nipE xs s k q = 1) := by constructor <;> simp [nipL, nipE, tfmB2, h1, h1b]
      go_enter Try.func35, Try.ntmps35
      go_wp2_with (first | (go_at_call 13; refine (sAreTensions_c _ _ _ _ H.out.1 hl).mono ?_; rintro e w' ⟨rfl, rfl⟩) | (go_at_call 17; refine (sIsStiffness_c _ _ _ _ H.out.2 hl2).mono ?_; rintro e w' ⟨rfl, nn, rfl⟩))
      go_ret2
      rw [HE.out.1, HE.out.2]
      exact ⟨_, rfl, OwnI.nil _ _, (Upd.refl w).drewN _⟩
    · obtain ⟨-, hn1, hn2⟩ := areB_t h1
      cases h2 : inB k 0 ((xs.length : Int) - 1)
      · have HE : Hid (nipL xs s k q = [] ∧ nipE xs s k q = 2) := by constructor <;> simp [nipL, nipE, tfmB2, placeB, h1, h1b, h2]
        go_enter Try.func35, Try.ntmps35
        go_wp2_with (first | (go_at_call 13; refine (sAreTensions_c _ _ _ _ H.out.1 hl).mono ?_; rintro e w' ⟨rfl, rfl⟩) | (go_at_call 17; refine (sIsStiffness_c _ _ _ _ H.out.2 hl2).mono ?_; rintro e w' ⟨rfl, nn, rfl⟩) | (go_at_call 37; refine (l01In_c _ _ _ _).mono ?_; rintro e w' ⟨rfl, rfl⟩))
        go_ret2
        rw [HE.out.1, HE.out.2]
        exact ⟨_, rfl, OwnI.nil _ _, (Upd.refl w).drewN _⟩
      · have hk := inB_t h2
        obtain ⟨j, rfl⟩ := Int.eq_ofNat_of_zero_le hk.1
        have hj : j < xs.length := by omega
        have HE : Hid (nipL xs s (j : Int) q = taL xs s (oneF xs.length j q) ∧ nipE xs s (j : Int) q = taE xs s (oneF xs.length j q)) := by
          constructor <;> simp [nipL, nipE, tfmB2, placeB, h1, h1b, h2]
        go_enter Try.func35, Try.ntmps35
        go_wp2_with (first | (go_at_call 13; refine (sAreTensions_c _ _ _ _ H.out.1 hl).mono ?_; rintro e w' ⟨rfl, rfl⟩) | (go_at_call 17; refine (sIsStiffness_c _ _ _ _ H.out.2 hl2).mono ?_; rintro e w' ⟨rfl, nn, rfl⟩) | (go_at_call 37; refine (l01In_c _ _ _ _).mono ?_; rintro e w' ⟨rfl, rfl⟩))
        have HD : Hid (Dr w (w.drewN nn)) := ⟨_, rfl⟩
        generalize w.drewN nn = w1 at HD ⊢
        refine (l07One_c xs.length j q _ hn2 hj).mono ?_
        rintro e w2 ⟨v, rfl, hO, hU⟩
        obtain ⟨ao, co, hv, hi, -⟩ := hO.intsAt
        rw [oneF_length] at hv
        subst hv
        have HU := Lib.hid (HD.out.upd.then0 hU)
        have HI := Lib.hid hi
        clear hO hU hi
        go_wp2_with fail
        have hsc := sTurnAll_c a b ao ca cb co xs s (oneF xs.length j q) w2 (H.out.1.kept0 HU.out) (H.out.2.kept0 HU.out) HI.out hl hl2 (by rw [oneF_length]; exact hl)
        rw [oneF_length] at hsc
        refine hsc.mono ?_
        rintro e w3 ⟨v, rfl, hO, hU⟩
        have HO := Lib.hid (hO.mono HU.out.size)
        have HU3 := Lib.hid (HU.out.then0 hU)
        clear hO hU hsc
        go_wp2_with fail
        go_ret2
        rw [HE.out.1, HE.out.2]
        exact ⟨_, rfl, HO.out, HU3.out⟩
theorem taB_one {xs s : List Int} {j : Nat} {q : Int} (hj : j < xs.length) : taB xs s (oneF xs.length j q) = areB (spread xs s j q) 0 3000 4 48 := by rw [taB, turnF_one _ _ _ _ hj]
theorem isQuarters_c (q : Int) (w : World) : Calls Try.prog 55 #[.int .i64 q] w fun e w' => e = .returned (.bool (inB q (-100) 100)) ∧ w = w' := by
  go_enter Try.func55, Try.ntmps55
  go_wp2_with (go_at_call 45; refine (within_c _ _ _ _).mono ?_; rintro e w' ⟨rfl, rfl⟩)
  go_ret
  exact ⟨rfl, rfl⟩
set_option maxHeartbeats 800000 in
theorem iTurnNipple_c (a b : Option Addr) (ca cb : Nat) (xs s : List Int) (k q : Int) (w : World) (h : IntsAt w a xs) (hs : IntsAt w b s) (hl : xs.length ≤ 1048576) (hl2 : s.length ≤ 1048576) (hcb : s.length ≤ cb) :
    Calls Try.prog 36 #[.slice a xs.length ca, .slice b s.length cb, .int .i64 k, .int .i64 q] w (NewIC w (nipL xs s k q) (nipE xs s k q)) := by
  have H := Lib.hid (show _ ∧ _ from ⟨h, hs⟩)
  cases h1 : areB xs 0 3000 4 48
  · have HE : Hid (nipL xs s k q = [] ∧ nipE xs s k q = 1) := by constructor <;> simp [nipL, nipE, tfmB2, h1]
    clear h hs
    go_enter Try.func36, Try.ntmps36
    go_wp2_with (go_at_call 15; refine (iAreTensions_c _ _ _ _ H.out.1 hl).mono ?_; rintro e w' ⟨rfl, rfl⟩)
    go_ret2
    rw [HE.out.1, HE.out.2]
    exact ⟨_, rfl, OwnI.nil _ _, Upd.refl w⟩
  · cases h1b : stiffB s
    · have HE : Hid (nipL xs s k q = [] ∧ nipE xs s k q = 1) := by constructor <;> simp [nipL, nipE, tfmB2, h1, h1b]
      clear h hs
      go_enter Try.func36, Try.ntmps36
      go_wp2_with (first | (go_at_call 15; refine (iAreTensions_c _ _ _ _ H.out.1 hl).mono ?_; rintro e w' ⟨rfl, rfl⟩) | (go_at_call 18; refine (iIsStiffness_c _ _ _ _ H.out.2 hl2 hcb).mono ?_; rintro e w' ⟨rfl, nn, rfl⟩))
      go_ret2
      rw [HE.out.1, HE.out.2]
      exact ⟨_, rfl, OwnI.nil _ _, (Upd.refl w).drewN _⟩
    · obtain ⟨-, hn1, hn2⟩ := areB_t h1
      cases h2 : inB k 0 ((xs.length : Int) - 1)
      · have HE : Hid (nipL xs s k q = [] ∧ nipE xs s k q = 2) := by constructor <;> simp [nipL, nipE, tfmB2, placeB, h1, h1b, h2]
        clear h hs
        go_enter Try.func36, Try.ntmps36
        go_wp2_with (first | (go_at_call 15; refine (iAreTensions_c _ _ _ _ H.out.1 hl).mono ?_; rintro e w' ⟨rfl, rfl⟩) | (go_at_call 18; refine (iIsStiffness_c _ _ _ _ H.out.2 hl2 hcb).mono ?_; rintro e w' ⟨rfl, nn, rfl⟩) | (go_at_call 45; refine (within_c _ _ _ _).mono ?_; rintro e w' ⟨rfl, rfl⟩))
        go_ret2
        rw [HE.out.1, HE.out.2]
        exact ⟨_, rfl, OwnI.nil _ _, (Upd.refl w).drewN _⟩
      · have hk := inB_t h2
        obtain ⟨j, rfl⟩ := Int.eq_ofNat_of_zero_le hk.1
        have hj : j < xs.length := by omega
        cases h3 : inB q (-100) 100
        · have HE : Hid (nipL xs s (j : Int) q = [] ∧ nipE xs s (j : Int) q = 2) := by
            constructor <;> simp [nipL, nipE, taL, taE, tfmB2, placeB, tsB, h1, h1b, h2, allB_one _ _ _ hj, h3]
          clear h hs
          go_enter Try.func36, Try.ntmps36
          go_wp2_with (first | (go_at_call 15; refine (iAreTensions_c _ _ _ _ H.out.1 hl).mono ?_; rintro e w' ⟨rfl, rfl⟩) | (go_at_call 18; refine (iIsStiffness_c _ _ _ _ H.out.2 hl2 hcb).mono ?_; rintro e w' ⟨rfl, nn, rfl⟩) | (go_at_call 45; refine (within_c _ _ _ _).mono ?_; rintro e w' ⟨rfl, rfl⟩) | (go_at_call 55; refine (isQuarters_c _ _).mono ?_; rintro e w' ⟨rfl, rfl⟩))
          go_ret2
          rw [HE.out.1, HE.out.2]
          exact ⟨_, rfl, OwnI.nil _ _, (Upd.refl w).drewN _⟩
        · have HE0 : Hid (nipL xs s (j : Int) q = (if areB (spread xs s j q) 0 3000 4 48 then spread xs s j q else []) ∧ nipE xs s (j : Int) q = (if areB (spread xs s j q) 0 3000 4 48 then 0 else 3)) := by
            have e1 : tsB xs (oneF xs.length j q) = true := by simp [tsB, oneF_length, allB_one _ _ _ hj, h3]
            constructor <;> simp [nipL, nipE, taL, taE, tfmB2, placeB, h1, h1b, h2, e1, taB_one hj, turnF_one _ _ _ _ hj]
          have h3' := inB_t h3
          obtain ⟨x1, x2, x3⟩ := areB_t h1
          obtain ⟨y1, y2, y3, -, -⟩ := stiffB_t h1b
          obtain ⟨bb, off, x, rfl, -, -⟩ := h.get (k := 0) (by omega)
          obtain ⟨sb, soff, sx, rfl, hsc, -⟩ := hs.get (k := 0) (by omega)
          have hsb := World.block_lt_of_cell? w _ hsc
          have HX : Hid (AllLe 3000 xs) := fun x hx => by have := x1 x hx; omega
          have HQ : Hid (∀ x, x ∈ s → -20000 ≤ q * x ∧ q * x ≤ 20000) := fun x hx => by have := mul_bd h3' (y1 x hx); omega
          clear h hs hsc x1 y1
          go_enter Try.func36, Try.ntmps36
          go_wp2_with (first | (go_at_call 15; refine (iAreTensions_c _ _ _ _ H.out.1 hl).mono ?_; rintro e w' ⟨rfl, rfl⟩) | (go_at_call 18; refine (iIsStiffness_c _ _ _ _ H.out.2 hl2 hcb).mono ?_; rintro e w' ⟨rfl, nn, rfl⟩) | (go_at_call 45; refine (within_c _ _ _ _).mono ?_; rintro e w' ⟨rfl, rfl⟩) | (go_at_call 55; refine (isQuarters_c _ _).mono ?_; rintro e w' ⟨rfl, rfl⟩))
          have HD : Hid (Dr w (w.drewN nn)) := ⟨_, rfl⟩
          generalize w.drewN nn = w1 at HD ⊢
          refine (copyList_c _ _ _ _ (H.out.1.dr HD.out) hl).mono ?_
          rintro e w2 ⟨v, rfl, hO, hU⟩
          rw [HD.out.size] at hO
          obtain ⟨g, cap, rfl, hg1, hg2⟩ := hO.row (by omega)
          have HU := Lib.hid (HD.out.upd.then0 hU)
          have HO := Lib.hid hO
          clear hO hU HD
          go_wp2_with fail
          refine (spreadTurn_c g cap _ _ xs s j q 20000 3000 _ _ HO.out (H.out.2.kept0 HU.out) (fun ad e => by cases e; simp; omega) ⟨by omega, by omega⟩ y3 ⟨by omega, by omega⟩ HQ.out (by omega) (by omega) HX.out).mono ?_
          rintro e w3 ⟨rfl, s1, s2⟩
          have HU3 : Hid (Upd [] w w3) := (HU.out).after0 s2 (by simp; omega)
          have HI : Hid (IntsAt w3 (some ⟨g, 0, none⟩) (spread xs s j q)) := by
            obtain ⟨a', c', e, hi, -⟩ := s1.intsAt
            simp only [Value.slice.injEq] at e
            rw [e.1]; exact hi
          have HS := Lib.hid s1
          clear s1 s2
          go_wp2_with fail
          refine (iAreTensions_n _ _ _ _ _ (spread_length xs s j q) HI.out hl).mono ?_
          rintro e w' ⟨rfl, rfl⟩
          cases h4 : areB (spread xs s j q) 0 3000 4 48
          · have HE : Hid (nipL xs s (j : Int) q = [] ∧ nipE xs s (j : Int) q = 3) := by rw [h4] at HE0; exact HE0
            go_wp2_with fail
            go_ret2
            rw [HE.out.1, HE.out.2]
            exact ⟨_, rfl, OwnI.nil _ _, HU3.out⟩
          · have HE : Hid (nipL xs s (j : Int) q = spread xs s j q ∧ nipE xs s (j : Int) q = 0) := by rw [h4] at HE0; exact HE0
            go_wp2_with fail
            go_ret2
            rw [HE.out.1, HE.out.2]
            exact ⟨_, rfl, HS.out, HU3.out⟩
end Go.Proofs.Ytabecnpdoicajaa
