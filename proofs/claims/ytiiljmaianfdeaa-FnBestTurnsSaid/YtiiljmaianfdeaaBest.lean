/- The contracts of chapter 8: the best turn of one nipple. -/
import Derived.Test.YtiiljmaianfdeaaSq
namespace Go.Proofs.Ytiiljmaianfdeaa
open Go.RowKit
set_option linter.unusedVariables false
set_option linter.unusedSimpArgs false

theorem sgn_zero (k : Nat) : sgn k 0 = 0 := by unfold sgn; split <;> rfl
theorem altAux_zeros (n i : Nat) : altAux i (List.replicate n 0) = List.replicate n 0 := by
  induction n generalizing i with
  | zero => rfl
  | succ n ih => rw [List.replicate_succ, altAux, ih, sgn_zero]
theorem altAux_one (n k i : Nat) (q : Int) (h : k < n) : altAux i (oneF n k q) = oneF n k (sgn (i + k) q) := by
  induction n generalizing k i with
  | zero => omega
  | succ n ih =>
    cases k with
    | zero => rw [oneF, oneF, List.replicate_succ, List.set_cons_zero, List.set_cons_zero, altAux, altAux_zeros]; rfl
    | succ k =>
      have e : ∀ z, oneF (n + 1) (k + 1) z = 0 :: oneF n k z := fun z => by simp [oneF, List.replicate_succ]
      rw [e, e, altAux, sgn_zero, ih k (i + 1) (by omega), show i + 1 + k = i + (k + 1) by omega]
theorem afterF_one (xs e : List Int) (k : Nat) (q : Int) (h : k < xs.length) : afterF xs e (oneF xs.length k q) = spread xs e k (sgn k q) := by
  rw [afterF, altF, altAux_one _ _ _ _ h, Nat.zero_add, turnF_one _ _ _ _ h]
theorem oneF_bd (n k : Nat) {q : Int} (h : -100 ≤ q ∧ q ≤ 100) : AllLe 100 (oneF n k q) := by
  intro x hx
  rcases List.mem_or_eq_of_mem_set hx with h1 | h1
  · have := (List.mem_replicate.1 h1).2; omega
  · omega
/-- The deviations after one turn. -/
def oneT (xs e : List Int) (k : Nat) (q : Int) : List Int := spread xs e k (sgn k q)
theorem oneT_length (xs e : List Int) (k : Nat) (q : Int) : (oneT xs e k q).length = xs.length := spread_length ..
theorem oneT_bd {M : Int} {xs e : List Int} (h : AllLe M xs) (hM : 0 ≤ M) (he : AllLe 20 e) (hl : (e.length : Int) ≤ 3) (k : Nat) {q : Int} (hq : -1 ≤ q ∧ q ≤ 1) : AllLe (M + 120) (oneT xs e k q) := by
  refine (spAux_bd (K := 20) (by omega) e (fun x hx => by have := mul_bd (sgn_bd k hq) (he x hx); omega) 0 h hM).mono ?_
  omega
def candF (xs e : List Int) (k : Nat) (q : Int) : Int := isq (oneT xs e k q)
/-- The least sum, the spoke (-1 if none) and the quarter, after one more try. -/
def bStep (xs e : List Int) (k : Nat) (q : Int) (s : Int × Int × Int) : Int × Int × Int := if candF xs e k q < s.1 then (candF xs e k q, (k : Int), q) else s
def bTo (xs e : List Int) : Nat → Int × Int × Int
  | 0 => (isq xs, -1, 0)
  | k + 1 => bStep xs e k (-1) (bStep xs e k 1 (bTo xs e k))
def bHalf (xs e : List Int) (k : Nat) : Nat → Int × Int × Int
  | 0 => bTo xs e k
  | 1 => bStep xs e k 1 (bTo xs e k)
  | _ => bTo xs e (k + 1)
theorem bHalf_step (xs e : List Int) (k : Nat) {j : Nat} {q : Int} (h : ([1, -1] : List Int)[j]? = some q) : bHalf xs e k (j + 1) = bStep xs e k q (bHalf xs e k j) := by
  match j, h with
  | 0, h => simp at h; subst h; rfl
  | 1, h => simp at h; subst h; rfl
  | j + 2, h => simp at h
theorem q_bd {j : Nat} {q : Int} (h : ([1, -1] : List Int)[j]? = some q) : -1 ≤ q ∧ q ≤ 1 := by
  match j, h with
  | 0, h => simp at h; omega
  | 1, h => simp at h; omega
  | j + 2, h => simp at h
/-- How the state reads in the code. -/
def bInv (s : Int × Int × Int) (l sp q : Int) (f : Bool) : Prop := s.1 = l ∧ ((f = true ∧ s.2.1 = sp ∧ s.2.2 = q ∧ 0 ≤ sp) ∨ (f = false ∧ s.2.1 = -1 ∧ s.2.2 = 0 ∧ sp = 0 ∧ q = 0))
theorem bInv_t {xs e : List Int} {k : Nat} {q l : Int} {s : Int × Int × Int} (h : s.1 = l) (hc : candF xs e k q < l) : bInv (bStep xs e k q s) (candF xs e k q) k q true := by
  subst h; unfold bStep; rw [if_pos hc]; exact ⟨rfl, .inl ⟨rfl, rfl, rfl, by omega⟩⟩
theorem bStep_f {xs e : List Int} {k : Nat} {q l : Int} {s : Int × Int × Int} (h : s.1 = l) (hc : ¬ candF xs e k q < l) : bStep xs e k q s = s := by
  subst h; unfold bStep; rw [if_neg hc]
/-- What bestTurn answers. -/
def BestI (xs e : List Int) (w : World) (en : Ending) (w' : World) : Prop := ∃ l sp q f, en = .returned (.tuple #[.int .i64 sp, .int .i64 q, .bool f]) ∧ bInv (bTo xs e xs.length) l sp q f ∧ Upd [] w w'
theorem Upd.setLit {w : World} (xs : List Int) : Upd [] w (w.alloc (.cells (xs.map (Value.int .i64)).toArray 2)) := (Upd.refl w).alloc _
theorem IntsAt.two (w : World) (x y : Int) : IntsAt (w.alloc (.cells #[.int .i64 x, .int .i64 y] 2)) (some ⟨w.heap.size, 0, none⟩) [x, y] := 
  .inr ⟨w.heap.size, 0, rfl, fun k z hz => by
    match k, hz with
    | 0, hz => simp at hz; subst hz; simp
    | 1, hz => simp at hz; subst hz; simp
    | k + 2, hz => simp at hz⟩
set_option maxRecDepth 20000 in
set_option maxHeartbeats 1600000 in
theorem bestTurn_n (b off c n : Nat) (a2 : Option Addr) (c2 : Nat) (xs ws : List Int) (M : Int) (w : World) (e : xs.length = n) (h : IntsAt w (some ⟨b, off, none⟩) xs) (h2 : IntsAt w a2 ws)
    (hn : 1 ≤ (n : Int) ∧ (n : Int) ≤ 10) (hl : 1 ≤ (ws.length : Int) ∧ (ws.length : Int) ≤ 3) (hM : 0 ≤ M ∧ M ≤ 50000) (hx : AllLe M xs) (hw : AllLe 20 ws) :
    Calls Try.prog 73 #[.slice (some ⟨b, off, none⟩) n c, .slice a2 ws.length c2] w (BestI xs ws w) := by
  subst e
  obtain ⟨sb, soff, sx, rfl, hsc, -⟩ := h2.get (k := 0) (by omega)
  have hsb := World.block_lt_of_cell? w _ hsc
  have H : Hid (∀ w', Upd [] w w' → IntsAt w' (some ⟨b, off, none⟩) xs) := fun w' u => h.kept0 u
  have HWS : Hid (∀ w', Upd [] w w' → IntsAt w' (some ⟨sb, soff, none⟩) ws) := fun w' u => h2.kept0 u
  have HX := Lib.hid hx
  have HX5 : Hid (AllLe 100000 xs) := hx.mono (by omega)
  have HW := Lib.hid hw
  clear h h2 hx hw hsc
  go_enter Try.func73, Try.ntmps73
  go_wp2_with (go_at_call 89; refine (squares_n _ _ _ xs _ rfl (H.out _ (Upd.refl _)) (by omega) HX5.out).mono ?_; rintro e w' ⟨rfl, rfl⟩)
  go_loopw [7, 8, 9, 10, 20] (fun l sp q f i wr => ∃ (k : Nat) (l' sp' q' : Int) (f' : Bool), k ≤ xs.length ∧ i = .int .i64 k ∧ l = .int .i64 l' ∧ sp = .int .i64 sp' ∧ q = .int .i64 q' ∧ f = .bool f' ∧ Hid (bInv (bTo xs ws k) l' sp' q' f') ∧ Hid (Upd [] w wr)) (fun _ _ _ _ i _ => xs.length - (intOf i).toNat)
  case atStart => exact ⟨0, _, _, _, _, by omega, rfl, rfl, rfl, rfl, rfl, ⟨rfl, .inr ⟨rfl, rfl, rfl, rfl, rfl⟩⟩, Upd.refl w⟩
  case round =>
    obtain ⟨k, l', sp', q', f', hk, rfl, rfl, rfl, rfl, rfl, HI, HU⟩ := hrel
    by_cases hlt : k < xs.length
    · obtain ⟨wo, ewo⟩ : ∃ wo : World, wo = wr := ⟨_, rfl⟩
      subst ewo
      have HL0 : Hid (∀ w', Upd [] (wo.alloc (.cells #[.int .i64 1, .int .i64 (-1)] 2)) w' → IntsAt w' (some ⟨wo.heap.size, 0, none⟩) [1, -1]) := fun w' u => (IntsAt.two wo 1 (-1)).kept0 u
      have HU2 : Hid (Upd [] w (wo.alloc (.cells #[.int .i64 1, .int .i64 (-1)] 2))) := (HU.out).alloc _
      go_wp2
      generalize wo.alloc (.cells #[.int .i64 1, .int .i64 (-1)] 2) = w1 at HL0 HU2 ⊢
      have HI0 : Hid (bInv (bHalf xs ws k 0) l' sp' q' f') := HI
      clear HI HU
      go_loopw [7, 8, 9, 10, 25] (fun l sp q f i wr => ∃ (j : Nat) (l' sp' q' : Int) (f' : Bool), j ≤ 2 ∧ i = .int .i64 j ∧ l = .int .i64 l' ∧ sp = .int .i64 sp' ∧ q = .int .i64 q' ∧ f = .bool f' ∧ Hid (bInv (bHalf xs ws k j) l' sp' q' f') ∧ Hid (Upd [] w1 wr)) (fun _ _ _ _ i _ => 2 - (intOf i).toNat)
      case atStart => exact ⟨0, _, _, _, _, by omega, rfl, rfl, rfl, rfl, rfl, HI0, Upd.refl w1⟩
      case round =>
        clear HI0
        obtain ⟨j, l', sp', q', f', hj, rfl, rfl, rfl, rfl, rfl, HI, HU⟩ := hrel
        by_cases hjl : j < 2
        · obtain ⟨lb, loff, q, e', hcq, hq⟩ := (HL0.out _ HU.out).get (k := j) (by simpa using hjl)
          cases e'
          rw [Nat.zero_add] at hcq
          have hq1 := q_bd hq.out
          have HN1 := Lib.hid (bHalf_step xs ws k hq.out)
          have HUw : Hid (Upd [] w wr) := (HU2.out).then0 HU.out
          go_wp2_with fail
          refine (copyList_c _ _ _ _ (H.out _ HUw.out) (by omega)).mono ?_
          rintro e w2 ⟨v, rfl, h1, h2⟩
          obtain ⟨g, cap, rfl, hg1, hg2⟩ := h1.row (by omega)
          have HO := Lib.hid (show _ ∧ _ from ⟨h1, h2⟩)
          have hwr : w.heap.size ≤ wr.heap.size := (HUw.out).size
          clear h1 h2
          have HQ : Hid (∀ x, x ∈ ws → -20 ≤ sgn k q * x ∧ sgn k q * x ≤ 20) := fun x hx => by have := mul_bd (sgn_bd k hq1) (HW.out x hx); omega
          go_wp2_with fail
          refine (trueTurn_n g cap xs.length _ _ xs ws k q 20 M _ _ rfl HO.out.1 (HWS.out _ ((HUw.out).then0 HO.out.2)) (fun ad e => by cases e; simp; omega) ⟨by omega, by omega⟩ (by omega) (by omega) (by omega) HQ.out (by omega) (by omega) HX.out).mono ?_
          rintro e w3 ⟨rfl, s1, s2⟩
          have HT : Hid (IntsAt w3 (some ⟨g, 0, none⟩) (oneT xs ws k q) ∧ Upd [] wr w3) := ⟨OwnI.ints s1, (HO.out.2).after0 s2 (by simp; omega)⟩
          have HT5 : Hid (AllLe 100000 (oneT xs ws k q)) := (oneT_bd HX.out hM.1 HW.out hl.2 k hq1).mono (by omega)
          clear s1 s2 HO
          go_wp2_with fail
          refine (squares_n _ _ _ (oneT xs ws k q) _ (oneT_length _ _ _ _) HT.out.1 (by omega) HT5.out).mono ?_
          rintro e w4 ⟨rfl, rfl⟩
          have HU3 : Hid (Upd [] w1 w3) := (HU.out).then0 HT.out.2
          obtain ⟨cv, hcv⟩ : ∃ cv, isq (oneT xs ws k q) = cv := ⟨_, rfl⟩
          have HC : Hid (candF xs ws k q = cv) := hcv
          rw [hcv]
          clear hcv
          by_cases hlt2 : cv < l'
          · have HN : Hid (bInv (bHalf xs ws k (j + 1)) cv k q true) := by
              show bInv _ _ _ _ _
              rw [HN1.out, ← HC.out]; exact bInv_t HI.out.1 (by rw [HC.out]; exact hlt2)
            clear HI
            go_wp2
            go_roundw
            case rel => exact ⟨j + 1, _, _, _, _, by omega, by go_num, rfl, rfl, rfl, rfl, HN, HU3⟩
            case measure => simp [intOf]; omega
          · have HN : Hid (bInv (bHalf xs ws k (j + 1)) l' sp' q' f') := by
              show bInv _ _ _ _ _
              rw [HN1.out, bStep_f HI.out.1 (by rw [HC.out]; exact hlt2)]; exact HI.out
            clear HI
            go_wp2
            go_roundw
            case rel => exact ⟨j + 1, _, _, _, _, by omega, by go_num, rfl, rfl, rfl, rfl, HN, HU3⟩
            case measure => simp [intOf]; omega
        · obtain rfl : j = 2 := by omega
          have HN : Hid (bInv (bTo xs ws (k + 1)) l' sp' q' f') := HI.out
          have HU4 : Hid (Upd [] w wr) := (HU2.out).then0 HU.out
          go_wp2
          go_roundw
          case rel => exact ⟨k + 1, _, _, _, _, by omega, by go_num, rfl, rfl, rfl, rfl, HN, HU4⟩
          case measure => simp [intOf]; omega
    · obtain rfl : k = xs.length := by omega
      go_wp2
      go_ret3
      exact ⟨_, _, _, _, rfl, HI.out, HU.out⟩
theorem qStep {j : Nat} (h : j < 2) : ([1, -1] : List Int)[j]? = some (1 - 2 * (j : Int)) := by
  match j, h with
  | 0, h => rfl
  | 1, h => rfl
/-- What l08Best answers. -/
def BestS (xs e : List Int) (w : World) (en : Ending) (w' : World) : Prop := ∃ sp q, en = .returned (.tuple #[.int .i64 sp, .int .i64 q]) ∧ (bTo xs e xs.length).2 = (sp, q) ∧ Upd [] w w'
theorem bStep_t {xs e : List Int} {k : Nat} {q l : Int} {s : Int × Int × Int} (h : s.1 = l) (hc : candF xs e k q < l) : bStep xs e k q s = (candF xs e k q, (k : Int), q) := by
  subst h; unfold bStep; rw [if_pos hc]
set_option maxRecDepth 20000 in
set_option maxHeartbeats 1600000 in
theorem l08Best_n (b off c n : Nat) (a2 : Option Addr) (c2 : Nat) (xs ws : List Int) (M : Int) (w : World) (e : xs.length = n) (h : IntsAt w (some ⟨b, off, none⟩) xs) (h2 : IntsAt w a2 ws)
    (hn : 1 ≤ (n : Int) ∧ (n : Int) ≤ 10) (hl : 1 ≤ (ws.length : Int) ∧ (ws.length : Int) ≤ 3) (hM : 0 ≤ M ∧ M ≤ 50000) (hx : AllLe M xs) (hw : AllLe 20 ws) :
    Calls Try.prog 74 #[.slice (some ⟨b, off, none⟩) n c, .slice a2 ws.length c2] w (BestS xs ws w) := by
  subst e
  have H : Hid (∀ w', Upd [] w w' → IntsAt w' (some ⟨b, off, none⟩) xs) := fun w' u => h.kept0 u
  have HWS : Hid (∀ w', Upd [] w w' → IntsAt w' a2 ws) := fun w' u => h2.kept0 u
  have HX := Lib.hid hx
  have HX5 : Hid (AllLe 100000 xs) := hx.mono (by omega)
  have HW := Lib.hid hw
  clear h h2 hx hw
  go_enter Try.func74, Try.ntmps74
  go_wp2_with fail
  refine (l08Squares_n _ _ _ xs _ rfl (H.out _ (Upd.refl _)) (by omega) HX5.out).mono ?_
  rintro e w0 ⟨rfl, hd⟩
  have HU0 : Hid (Upd [] w w0) := hd.upd
  clear hd
  go_wp2_with fail
  go_loopw [6, 7, 8, 9] (fun sp q l i wr => ∃ (k : Nat) (l' sp' q' : Int), k ≤ xs.length ∧ i = .int .i64 k ∧ l = .int .i64 l' ∧ sp = .int .i64 sp' ∧ q = .int .i64 q' ∧ Hid (bTo xs ws k = (l', sp', q')) ∧ Hid (Upd [] w wr)) (fun _ _ _ i _ => xs.length - (intOf i).toNat)
  case atStart => exact ⟨0, _, _, _, by omega, rfl, rfl, rfl, rfl, rfl, HU0⟩
  case round =>
    clear HU0
    obtain ⟨k, l', sp', q', hk, rfl, rfl, rfl, rfl, HI, HU⟩ := hrel
    by_cases hlt : k < xs.length
    · obtain ⟨wo, ewo⟩ : ∃ wo : World, wo = wr := ⟨_, rfl⟩
      subst ewo
      have HI0 : Hid (bHalf xs ws k 0 = (l', sp', q')) := HI
      clear HI
      go_wp2
      go_loopw [6, 7, 8, 10] (fun sp q l i wr => ∃ (j : Nat) (l' sp' q' : Int), j ≤ 2 ∧ i = .int .i64 (1 - 2 * (j : Int)) ∧ l = .int .i64 l' ∧ sp = .int .i64 sp' ∧ q = .int .i64 q' ∧ Hid (bHalf xs ws k j = (l', sp', q')) ∧ Hid (Upd [] w wr)) (fun _ _ _ i _ => (intOf i + 3).toNat)
      case atStart => exact ⟨0, _, _, _, by omega, rfl, rfl, rfl, rfl, HI0, HU⟩
      case round =>
        clear HI0 HU
        obtain ⟨j, l', sp', q', hj, rfl, rfl, rfl, rfl, HI, HU⟩ := hrel
        by_cases hjl : j < 2
        · have HN1 := Lib.hid (bHalf_step xs ws k (qStep hjl))
          have hq0 := q_bd (qStep hjl)
          obtain ⟨q, hq⟩ : ∃ q, 1 - 2 * (j : Int) = q := ⟨_, rfl⟩
          rw [hq] at HN1 hq0 ⊢
          have hqn : -1 - 2 * (j : Int) = q - 2 := by omega
          have HQN := Lib.hid (show _ ∧ _ from ⟨hq, hqn⟩)
          clear hq hqn
          go_wp2_with fail
          refine (l07One_c xs.length k q _ (by omega) hlt).mono ?_
          rintro e w2 ⟨v, rfl, h1, h2⟩
          obtain ⟨ao, co, rfl, hi1, -⟩ := h1.intsAt
          have HO := Lib.hid (show _ ∧ _ from ⟨hi1, (HU.out).then0 h2⟩)
          clear h1 h2 hi1
          go_wp2_with fail
          refine (l08After_c b off c a2 ao c2 co xs ws (oneF xs.length k q) M _ (H.out _ HO.out.2) (HWS.out _ HO.out.2) HO.out.1 ⟨by omega, by omega⟩ (by omega) (oneF_length _ _ _) ⟨by omega, by omega⟩ HX.out HW.out (oneF_bd _ _ (by omega))).mono ?_
          rintro e w3 ⟨v, rfl, h1, h2⟩
          rw [afterF_one _ _ _ _ hlt] at h1
          obtain ⟨ar, cr, rfl, hi1, -⟩ := h1.intsAt
          have HT : Hid (IntsAt w3 ar (oneT xs ws k q) ∧ Upd [] w w3) := ⟨hi1, (HO.out.2).then0 h2⟩
          have HT5 : Hid (AllLe 100000 (oneT xs ws k q)) := (oneT_bd HX.out hM.1 HW.out hl.2 k hq0).mono (by omega)
          have hlen : ((oneT xs ws k q).length : Int) ≤ 48 := by rw [oneT_length]; omega
          clear h1 h2 hi1 HO
          go_wp2_with fail
          refine (l08Squares_n _ _ _ (oneT xs ws k q) _ rfl HT.out.1 hlen HT5.out).mono ?_
          rintro e w4 ⟨rfl, hd⟩
          have HU3 : Hid (Upd [] w w4) := (HT.out.2).then0 hd.upd
          clear hd HT
          obtain ⟨cv, hcv⟩ : ∃ cv, isq (oneT xs ws k q) = cv := ⟨_, rfl⟩
          have HC : Hid (candF xs ws k q = cv) := hcv
          rw [hcv]
          clear hcv
          by_cases hlt2 : cv < l'
          · have HN : Hid (bHalf xs ws k (j + 1) = (cv, (k : Int), q)) := by
              show _ = _
              rw [HN1.out, ← HC.out]; exact bStep_t (by rw [HI.out]) (by rw [HC.out]; exact hlt2)
            clear HI
            go_wp2
            go_roundw
            case rel => exact ⟨j + 1, _, _, _, by omega, congrArg (Value.int .i64) (by have := HQN.out.1; omega), rfl, rfl, rfl, HN, HU3⟩
            case measure => simp [intOf]; omega
          · have HN : Hid (bHalf xs ws k (j + 1) = (l', sp', q')) := by
              show _ = _
              rw [HN1.out, bStep_f (by rw [HI.out]) (by rw [HC.out]; exact hlt2)]; exact HI.out
            clear HI
            go_wp2
            go_roundw
            case rel => exact ⟨j + 1, _, _, _, by omega, congrArg (Value.int .i64) (by have := HQN.out.1; omega), rfl, rfl, rfl, HN, HU3⟩
            case measure => simp [intOf]; omega
        · obtain rfl : j = 2 := by omega
          have HN : Hid (bTo xs ws (k + 1) = (l', sp', q')) := HI.out
          go_wp2
          go_roundw
          case rel => exact ⟨k + 1, _, _, _, by omega, by go_num, rfl, rfl, rfl, HN, HU⟩
          case measure => simp [intOf]; omega
    · obtain rfl : k = xs.length := by omega
      go_wp2
      go_ret2
      exact ⟨_, _, rfl, by rw [HI.out], HU.out⟩

/-! ### BestTurn -/
theorem bTo_nn (xs e : List Int) (k : Nat) : (bTo xs e k).2 = (-1, 0) ∨ (0 ≤ (bTo xs e k).2.1 ∧ (bTo xs e k).2.1 < k ∧ -1 ≤ (bTo xs e k).2.2 ∧ (bTo xs e k).2.2 ≤ 1) := by
  have key : ∀ (k : Nat) (q : Int) (s : Int × Int × Int), (-1 ≤ q ∧ q ≤ 1) → (s.2 = (-1, 0) ∨ (0 ≤ s.2.1 ∧ s.2.1 < (k : Int) + 1 ∧ -1 ≤ s.2.2 ∧ s.2.2 ≤ 1)) →
      ((bStep xs e k q s).2 = (-1, 0) ∨ (0 ≤ (bStep xs e k q s).2.1 ∧ (bStep xs e k q s).2.1 < (k : Int) + 1 ∧ -1 ≤ (bStep xs e k q s).2.2 ∧ (bStep xs e k q s).2.2 ≤ 1)) := by
    intro k q s hq hs
    unfold bStep
    split
    · right; simp only []; omega
    · exact hs
  induction k with
  | zero => left; rfl
  | succ k ih =>
    have := key k (-1) _ (by omega) (key k 1 _ (by omega) (ih.imp id fun h => ⟨h.1, by omega, h.2.2⟩))
    rw [show ((k + 1 : Nat) : Int) = (k : Int) + 1 by omega]
    exact this
/-- The best turn's spoke, or -1. -/
def bSp (xs e : List Int) : Int := (bTo xs e xs.length).2.1
def bQ (xs e : List Int) : Int := (bTo xs e xs.length).2.2
theorem bSQ (xs e : List Int) : (bSp xs e = -1 ∧ bQ xs e = 0) ∨ (0 ≤ bSp xs e ∧ bSp xs e < xs.length ∧ -1 ≤ bQ xs e ∧ bQ xs e ≤ 1) := by
  rcases bTo_nn xs e xs.length with h | h
  · left; unfold bSp bQ; rw [h]; exact ⟨rfl, rfl⟩
  · right; exact h
theorem BestI.cases {xs e : List Int} {w : World} {en : Ending} {w' : World} (h : BestI xs e w en w') :
    ∃ sp q f, en = .returned (.tuple #[.int .i64 sp, .int .i64 q, .bool f]) ∧ ((f = true ∧ bSp xs e = sp ∧ bQ xs e = q ∧ 0 ≤ sp) ∨ (f = false ∧ bSp xs e = -1 ∧ sp = 0 ∧ q = 0)) ∧ Upd [] w w' := by
  obtain ⟨l, sp, q, f, rfl, ⟨-, h⟩, hu⟩ := h
  refine ⟨sp, q, f, rfl, ?_, hu⟩
  rcases h with ⟨h1, h2, h3, h4⟩ | ⟨h1, h2, h3, h4⟩
  · exact .inl ⟨h1, h2, h3, h4⟩
  · exact .inr ⟨h1, h2, h4⟩
/-! The answers of BestTurn. -/
def btS (xs e : List Int) : Int := if deB xs e then (if 0 ≤ bSp xs e then bSp xs e else 0) else 0
def btQ (xs e : List Int) : Int := if deB xs e then (if 0 ≤ bSp xs e then bQ xs e else 0) else 0
def btE (xs e : List Int) : Int := if deB xs e then (if 0 ≤ bSp xs e then 0 else 4) else 1
def Ret3 (a b c : Int) (w : World) (en : Ending) (w' : World) : Prop := en = .returned (.tuple #[.int .i64 a, .int .i64 b, .int .i64 c]) ∧ Upd [] w w'
set_option maxRecDepth 20000 in
set_option maxHeartbeats 800000 in
theorem iBestTurn_c (a b : Option Addr) (ca cb : Nat) (xs e : List Int) (w : World) (h : IntsAt w a xs) (hs : IntsAt w b e) (hl : xs.length ≤ 1048576) (hl2 : e.length ≤ 1048576) :
    Calls Try.prog 36 #[.slice a xs.length ca, .slice b e.length cb] w (Ret3 (btS xs e) (btQ xs e) (btE xs e) w) := by
  have H := Lib.hid (show _ ∧ _ from ⟨h, hs⟩)
  cases h1 : areB xs (-500) 500 4 10
  · have HE : Hid (btS xs e = 0 ∧ btQ xs e = 0 ∧ btE xs e = 1) := by refine ⟨?_, ?_, ?_⟩ <;> simp [btS, btQ, btE, deB, h1]
    clear h hs
    go_enter Try.func36, Try.ntmps36
    go_wp2_with (go_at_call 45; refine (iAreDeviations_c _ _ _ _ H.out.1 hl).mono ?_; rintro e w' ⟨rfl, rfl⟩)
    go_ret3
    rw [HE.out.1, HE.out.2.1, HE.out.2.2]
    exact ⟨rfl, Upd.refl w⟩
  · cases h1b : effB e
    · have HE : Hid (btS xs e = 0 ∧ btQ xs e = 0 ∧ btE xs e = 1) := by refine ⟨?_, ?_, ?_⟩ <;> simp [btS, btQ, btE, deB, h1, h1b]
      clear h hs
      go_enter Try.func36, Try.ntmps36
      go_wp2_with (first | (go_at_call 45; refine (iAreDeviations_c _ _ _ _ H.out.1 hl).mono ?_; rintro e w' ⟨rfl, rfl⟩) | (go_at_call 32; refine (iIsEffect_c _ _ _ _ H.out.2 hl2).mono ?_; rintro e w' ⟨rfl, rfl⟩))
      go_ret3
      rw [HE.out.1, HE.out.2.1, HE.out.2.2]
      exact ⟨rfl, Upd.refl w⟩
    · obtain ⟨b1, b2, b3, b4, b5⟩ := de_bd h1 h1b
      obtain ⟨bb, off, x, rfl, -, -⟩ := h.get (k := 0) (by omega)
      have HB := Lib.hid (show _ ∧ _ from ⟨b1, b2⟩)
      have HD : Hid (deB xs e = true) := by show _ = _; simp [deB, h1, h1b]
      clear h hs b1 b2
      go_enter Try.func36, Try.ntmps36
      go_wp2_with (first | (go_at_call 45; refine (iAreDeviations_c _ _ _ _ H.out.1 hl).mono ?_; rintro e w' ⟨rfl, rfl⟩) | (go_at_call 32; refine (iIsEffect_c _ _ _ _ H.out.2 hl2).mono ?_; rintro e w' ⟨rfl, rfl⟩))
      refine (bestTurn_n bb off _ xs.length _ _ xs e 500 _ rfl H.out.1 H.out.2 ⟨by omega, by omega⟩ ⟨b4, b5⟩ (by omega) HB.out.1 HB.out.2).mono ?_
      intro e1 w1 hb
      obtain ⟨sp, q, f, rfl, hc, hu⟩ := hb.cases
      have HU := Lib.hid hu
      clear hb hu
      rcases hc with ⟨rfl, c1, c2, c3⟩ | ⟨rfl, c1, rfl, rfl⟩
      · have HE : Hid (btS xs e = sp ∧ btQ xs e = q ∧ btE xs e = 0) := by
          rw [← c1] at c3
          refine ⟨?_, ?_, ?_⟩ <;> simp [btS, btQ, btE, HD.out, c1, c2, c3] <;> omega
        clear c1 c2
        go_wp2
        go_ret3
        rw [HE.out.1, HE.out.2.1, HE.out.2.2]
        exact ⟨rfl, HU.out⟩
      · have HE : Hid (btS xs e = 0 ∧ btQ xs e = 0 ∧ btE xs e = 4) := by
          refine ⟨?_, ?_, ?_⟩ <;> simp [btS, btQ, btE, HD.out, c1]
        clear c1
        go_wp2
        go_ret3
        rw [HE.out.1, HE.out.2.1, HE.out.2.2]
        exact ⟨rfl, HU.out⟩
set_option maxRecDepth 20000 in
set_option maxHeartbeats 800000 in
theorem sBestTurn_c (a b : Option Addr) (ca cb : Nat) (xs e : List Int) (w : World) (h : IntsAt w a xs) (hs : IntsAt w b e) (hl : xs.length ≤ 1048576) (hl2 : e.length ≤ 1048576) :
    Calls Try.prog 37 #[.slice a xs.length ca, .slice b e.length cb] w (Ret3 (btS xs e) (btQ xs e) (btE xs e) w) := by
  have H := Lib.hid (show _ ∧ _ from ⟨h, hs⟩)
  cases hd : deB xs e
  · have HE : Hid (btS xs e = 0 ∧ btQ xs e = 0 ∧ btE xs e = 1) := by refine ⟨?_, ?_, ?_⟩ <;> simp [btS, btQ, btE, hd]
    have hc : codeD xs e 0 = 1 := by simp [codeD, hd]
    clear h hs
    go_enter Try.func37, Try.ntmps37
    go_wp2_with (go_at_call 65; refine (l08Code_c _ _ _ _ xs e 0 _ H.out.1 H.out.2 hl hl2).mono ?_; rintro e w' ⟨rfl, rfl⟩)
    go_ret3
    rw [HE.out.1, HE.out.2.1, HE.out.2.2]
    exact ⟨rfl, Upd.refl w⟩
  · have hc : codeD xs e 0 = 0 := by simp [codeD, hd, inB]
    have hd2 := hd
    simp only [deB, Bool.and_eq_true] at hd2
    obtain ⟨b1, b2, b3, b4, b5⟩ := de_bd hd2.1 hd2.2
    obtain ⟨bb, off, x, rfl, -, -⟩ := h.get (k := 0) (by omega)
    have HB := Lib.hid (show _ ∧ _ from ⟨b1, b2⟩)
    have HD := Lib.hid hd
    clear h hs b1 b2 hd hd2
    go_enter Try.func37, Try.ntmps37
    go_wp2_with (go_at_call 65; refine (l08Code_c _ _ _ _ xs e 0 _ H.out.1 H.out.2 hl hl2).mono ?_; rintro e w' ⟨rfl, rfl⟩)
    refine (l08Best_n bb off _ xs.length _ _ xs e 500 _ rfl H.out.1 H.out.2 ⟨by omega, by omega⟩ ⟨b4, b5⟩ (by omega) HB.out.1 HB.out.2).mono ?_
    rintro e1 w1 ⟨sp, q, rfl, hb, hu⟩
    have HU := Lib.hid hu
    have c1 : bSp xs e = sp := by unfold bSp; rw [hb]
    have c2 : bQ xs e = q := by unfold bQ; rw [hb]
    clear hb hu
    have hbd := bSQ xs e
    by_cases c3 : sp < 0
    · have HE : Hid (btS xs e = 0 ∧ btQ xs e = 0 ∧ btE xs e = 4) := by
        have c4 : ¬ 0 ≤ bSp xs e := by omega
        refine ⟨?_, ?_, ?_⟩ <;> simp only [btS, btQ, btE, HD.out, if_true, if_neg c4]
      rw [c1, c2] at hbd
      clear c1 c2
      go_wp2
      go_ret3
      rw [HE.out.1, HE.out.2.1, HE.out.2.2]
      exact ⟨rfl, HU.out⟩
    · have HE : Hid (btS xs e = sp ∧ btQ xs e = q ∧ btE xs e = 0) := by
        have c4 : 0 ≤ bSp xs e := by omega
        refine ⟨?_, ?_, ?_⟩ <;> simp only [btS, btQ, btE, HD.out, if_true, if_pos c4, if_pos (show 0 ≤ sp by omega), c1, c2]
      rw [c1, c2] at hbd
      clear c1 c2
      go_wp2
      go_ret3
      rw [HE.out.1, HE.out.2.1, HE.out.2.2]
      exact ⟨rfl, HU.out⟩
end Go.Proofs.Ytiiljmaianfdeaa
