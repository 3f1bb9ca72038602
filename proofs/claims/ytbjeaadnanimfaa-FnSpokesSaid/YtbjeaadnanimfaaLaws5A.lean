/- The law of the spokes: mirroring a wheel exchanges the lengths of both sides. -/
import Derived.Test.YtbjeaadnanimfaaSpokeL
import Derived.Test.YtbjeaadnanimfaaDrawS
import Derived.Test.YtbjeaadnanimfaaRowL
import Derived.Deep.CutBlock
namespace Go.Proofs.Ytbjeaadnanimfaa
open Go.RowKit
set_option linter.unusedVariables false
set_option linter.unusedSimpArgs false

theorem pair_at {w : World} {a : Option Addr} {f r : Int} (h : IntsAt w a [f, r]) :
    ∃ b off, a = some ⟨b, off, none⟩ ∧ w.cell? ⟨b, off, none⟩ = some (.int .i64 f) ∧ w.cell? ⟨b, off + 1, none⟩ = some (.int .i64 r) := by
  rcases h with h | ⟨b, off, e, hc⟩
  · simp at h
  · exact ⟨b, off, e, hc 0 _ (by simp), hc 1 _ (by simp)⟩
set_option maxRecDepth 20000 in
set_option maxHeartbeats 6400000 in
theorem FnSpokes_walk (a : Option Addr) (c : Nat) (bs : List Int) (w : World) (h : U8At w a bs) : Calls Try.prog 4 #[.slice a bs.length c] w (RetT w) := by
  have HC := Lib.hid h
  clear h
  by_cases hl : bs.length ≤ 4096
  case neg =>
    go_enter Try.func4, Try.ntmps4
    go_wp2_with (go_at_call 6; refine (big_x _ _ _ _ hl).mono ?_; rintro e w' ⟨rfl, rfl⟩)
    go_ret
    exact ⟨rfl, Upd.refl _⟩
  go_enter Try.func4, Try.ntmps4
  go_wp2_with (go_at_call 6; refine (big_y _ _ _ _ hl).mono ?_; rintro e w' ⟨rfl, rfl⟩)
  refine (DrawSpokeLength_c a c bs _ HC.out hl).mono ?_
  rintro e wn ⟨h, l, r, lo, ro, rh, d, o, k, b, rfl, hu⟩
  have U := Lib.hid hu
  clear hu HC
  have bX : Blk (wn.alloc (.cells #[.int .i64 h, .int .i64 l, .int .i64 r, .int .i64 lo, .int .i64 ro, .int .i64 rh, .int .i64 d, .int .i64 o, .int .i64 k] 34)) wn.heap.size [h, l, r, lo, ro, rh, d, o, k] 34 := Blk.new wn [h, l, r, lo, ro, rh, d, o, k] _
  have uX : Upd [] wn (wn.alloc (.cells #[.int .i64 h, .int .i64 l, .int .i64 r, .int .i64 lo, .int .i64 ro, .int .i64 rh, .int .i64 d, .int .i64 o, .int .i64 k] 34)) := (Upd.refl wn).alloc _
  have HXA : Hid (∀ w', Upd [] (wn.alloc (.cells #[.int .i64 h, .int .i64 l, .int .i64 r, .int .i64 lo, .int .i64 ro, .int .i64 rh, .int .i64 d, .int .i64 o, .int .i64 k] 34)) w' → WhC w' wn.heap.size h l r lo ro rh d o k) := fun w' u => (bX.kept0 u).whC
  have V : Hid (Upd [] (wn.alloc (.cells #[.int .i64 h, .int .i64 l, .int .i64 r, .int .i64 lo, .int .i64 ro, .int .i64 rh, .int .i64 d, .int .i64 o, .int .i64 k] 34)) (wn.alloc (.cells #[.int .i64 h, .int .i64 l, .int .i64 r, .int .i64 lo, .int .i64 ro, .int .i64 rh, .int .i64 d, .int .i64 o, .int .i64 k] 34))) := Upd.refl _
  replace U := Lib.hid (U.out.then0 uX)
  clear bX uX
  obtain ⟨c0, c1, c2, c3, c4, c5, c6, c7, c8⟩ := HXA.out _ V.out
  go_wp2_with fail
  clear c0 c1 c2 c3 c4 c5 c6 c7 c8
  generalize wn.heap.size = XA at HXA ⊢
  generalize wn.alloc (.cells #[.int .i64 h, .int .i64 l, .int .i64 r, .int .i64 lo, .int .i64 ro, .int .i64 rh, .int .i64 d, .int .i64 o, .int .i64 k] 34) = w2 at HXA V U  ⊢
  refine (iSpokeLength_c h l r lo ro rh d o k b _).mono ?_
  rintro e w3 ⟨rfl, hu⟩
  replace V := Lib.hid (V.out.then0 hu)
  clear hu
  obtain ⟨c0, c1, c2, c3, c4, c5, c6, c7, c8⟩ := HXA.out _ V.out
  go_wp2_with fail
  clear c0 c1 c2 c3 c4 c5 c6 c7 c8
  refine (sSpokeLength_c h l r lo ro rh d o k b _).mono ?_
  rintro e w4 ⟨rfl, hu⟩
  replace V := Lib.hid (V.out.then0 hu)
  clear hu
  obtain ⟨c0, c1, c2, c3, c4, c5, c6, c7, c8⟩ := HXA.out _ V.out
  go_wp2_with fail
  clear c0 c1 c2 c3 c4 c5 c6 c7 c8
  refine (iSquareOfSpoke_c h l r lo ro rh d o k b _).mono ?_
  rintro e w5 ⟨rfl, hu⟩
  replace V := Lib.hid (V.out.then0 hu)
  clear hu
  obtain ⟨c0, c1, c2, c3, c4, c5, c6, c7, c8⟩ := HXA.out _ V.out
  go_wp2_with fail
  clear c0 c1 c2 c3 c4 c5 c6 c7 c8
  refine (sSquareOfSpoke_c h l r lo ro rh d o k b _).mono ?_
  rintro e w6 ⟨rfl, hu⟩
  replace V := Lib.hid (V.out.then0 hu)
  clear hu
  obtain ⟨c0, c1, c2, c3, c4, c5, c6, c7, c8⟩ := HXA.out _ V.out
  go_wp2_with fail
  clear c0 c1 c2 c3 c4 c5 c6 c7 c8
  refine ((iCounts_c h l r lo ro rh d o k _).mono fun _ _ h => RowsP.read h).mono ?_
  rintro e w7 ⟨po, co, rfl, ir, hu⟩
  have HO : Hid (∀ w', Upd [] w7 w' → RowsAt w' po (cntL h l r lo ro rh d o k)) := fun w' u => ir.kept0 u
  replace V := Lib.hid (V.out.then0 hu)
  clear hu ir
  obtain ⟨c0, c1, c2, c3, c4, c5, c6, c7, c8⟩ := HXA.out _ V.out
  go_wp2_with fail
  clear c0 c1 c2 c3 c4 c5 c6 c7 c8
  refine ((sCounts_c h l r lo ro rh d o k _).mono fun _ _ h => RowsP.read h).mono ?_
  rintro e w8 ⟨pq, cq, rfl, ir, hu⟩
  have HO2 : Hid (∀ w', Upd [] w8 w' → RowsAt w' po (cntL h l r lo ro rh d o k) ∧ RowsAt w' pq (cntL h l r lo ro rh d o k)) := fun w' u => ⟨HO.out w' (hu.then0 u), ir.kept0 u⟩
  replace V := Lib.hid (V.out.then0 hu)
  have HV8 : Hid (Upd [] w8 w8) := Upd.refl _
  clear hu ir HO
  have HG := Lib.hid (@spk_law h l r lo ro rh d o k b)
  obtain ⟨hs1, hs2⟩ := cntL_small h l r lo ro rh d o k
  generalize lenR h l r lo ro rh d o k b = LL at HG ⊢
  generalize sqR h l r lo ro rh d o k b = SS at HG ⊢
  generalize cntL h l r lo ro rh d o k = R at HG HO2 hs1 hs2 ⊢
  generalize whE h l r lo ro rh d o k = E at HG ⊢
  have HR1 := Lib.hid hs1
  have HR2 := Lib.hid hs2
  clear hs1 hs2
  go_wp2_with fail
  refine (likeRows_c po pq co cq R _ (HO2.out _ HV8.out).1 (HO2.out _ HV8.out).2 (by have := HR1.out; omega) HR2.out).mono ?_
  rintro e w9 ⟨rfl, hu⟩
  replace V := Lib.hid (V.out.then0 hu)
  replace HO2 := Lib.hid (fun w' u => HO2.out w' (hu.then0 u))
  clear hu HV8 HR2
  by_cases e1 : E = 0
  case neg =>
    clear HG HO2 HXA
    go_wp2_with fail
    go_ret
    exact ⟨rfl, U.out.then0 V.out⟩
  case pos =>
    subst e1
    have G := Lib.hid (HG.out rfl)
    clear HG
    obtain ⟨c0, c1, c2, c3, c4, c5, c6, c7, c8⟩ := HXA.out _ V.out
    go_wp2_with fail
    clear c0 c1 c2 c3 c4 c5 c6 c7 c8
    refine (iMirrorWheel_c h l r lo ro rh d o k _ G.out.wh).mono ?_
    rintro e wn ⟨rfl, hu⟩
    have UB := Lib.hid ((U.out.then0 V.out).then0 hu)
    replace HXA := Lib.hid (fun w' u => HXA.out w' ((V.out.then0 hu).then0 u))
    replace HO2 := Lib.hid (fun w' u => HO2.out w' (hu.then0 u))
    clear hu V U
    have U := UB
    clear UB
    have bX : Blk (wn.alloc (.cells #[.int .i64 h, .int .i64 r, .int .i64 l, .int .i64 ro, .int .i64 lo, .int .i64 rh, .int .i64 d, .int .i64 (-o), .int .i64 k] 34)) wn.heap.size [h, r, l, ro, lo, rh, d, -o, k] 34 := Blk.new wn [h, r, l, ro, lo, rh, d, -o, k] _
    have uX : Upd [] wn (wn.alloc (.cells #[.int .i64 h, .int .i64 r, .int .i64 l, .int .i64 ro, .int .i64 lo, .int .i64 rh, .int .i64 d, .int .i64 (-o), .int .i64 k] 34)) := (Upd.refl wn).alloc _
    have HXB : Hid (∀ w', Upd [] (wn.alloc (.cells #[.int .i64 h, .int .i64 r, .int .i64 l, .int .i64 ro, .int .i64 lo, .int .i64 rh, .int .i64 d, .int .i64 (-o), .int .i64 k] 34)) w' → WhC w' wn.heap.size h r l ro lo rh d (-o) k) := fun w' u => (bX.kept0 u).whC
    have V : Hid (Upd [] (wn.alloc (.cells #[.int .i64 h, .int .i64 r, .int .i64 l, .int .i64 ro, .int .i64 lo, .int .i64 rh, .int .i64 d, .int .i64 (-o), .int .i64 k] 34)) (wn.alloc (.cells #[.int .i64 h, .int .i64 r, .int .i64 l, .int .i64 ro, .int .i64 lo, .int .i64 rh, .int .i64 d, .int .i64 (-o), .int .i64 k] 34))) := Upd.refl _
    replace U := Lib.hid (U.out.then0 uX)
    replace HXA := Lib.hid (fun w' u => HXA.out w' (uX.then0 u))
    replace HO2 := Lib.hid (fun w' u => HO2.out w' (uX.then0 u))
    clear bX uX
    obtain ⟨c0, c1, c2, c3, c4, c5, c6, c7, c8⟩ := HXB.out _ V.out
    go_wp2_with fail
    clear c0 c1 c2 c3 c4 c5 c6 c7 c8
    generalize wn.heap.size = XB at HXB ⊢
    generalize wn.alloc (.cells #[.int .i64 h, .int .i64 r, .int .i64 l, .int .i64 ro, .int .i64 lo, .int .i64 rh, .int .i64 d, .int .i64 (-o), .int .i64 k] 34) = w10 at HXB V U HXA HO2 ⊢
    refine (iSpokeLength_c h r l ro lo rh d (-o) k (!b) _).mono ?_
    rintro e w11 ⟨rfl, hu⟩
    replace V := Lib.hid (V.out.then0 hu)
    clear hu
    rw [G.out.mL, G.out.mE]
    clear HXB
    have hsb := G.out.sb
    have hlb := G.out.lb
    have hlo := G.out.lo
    have hhi := G.out.hi
    obtain ⟨T, F, ct0, cf0, ctn, cfn, cst⟩ := G.out.cn
    have hw0 : IntKind.i64.wrap (LL + 12) = LL + 12 := IntWalk.i64_in _ (by omega)
    obtain ⟨D, hD⟩ : ∃ D, D = 2 * (LL + 12) := ⟨_, rfl⟩
    rw [← hD] at hlo hhi
    have hw1 : IntKind.i64.wrap (2 * (LL + 12)) = D := by rw [hD]; exact IntWalk.i64_in _ (by omega)
    have hw2 : IntKind.i64.wrap (D - 1) = D - 1 := IntWalk.i64_in _ (by omega)
    have hw3 : IntKind.i64.wrap (D + 1) = D + 1 := IntWalk.i64_in _ (by omega)
    have hb1 : 0 ≤ (D - 1) * (D - 1) := Int.mul_nonneg (by omega) (by omega)
    have hb2 : (D + 1) * (D + 1) ≤ 10000 * 10000 := Int.mul_le_mul (by omega) (by omega) (by omega) (by omega)
    obtain ⟨P, hP⟩ : ∃ P, P = (D - 1) * (D - 1) := ⟨_, rfl⟩
    obtain ⟨Q, hQ⟩ : ∃ Q, Q = (D + 1) * (D + 1) := ⟨_, rfl⟩
    rw [← hP] at hlo hb1
    rw [← hQ] at hhi hb2
    have hw4 : IntKind.i64.wrap ((D - 1) * (D - 1)) = P := by rw [← hP]; exact IntWalk.i64_in _ (by omega)
    have hw5 : IntKind.i64.wrap ((D + 1) * (D + 1)) = Q := by rw [← hQ]; exact IntWalk.i64_in _ (by omega)
    clear hP hQ hD
    have hx1 : ¬ SS < 0 := by omega
    have hx2 : ¬ SS < P := by omega
    have hx3 : ¬ Q ≤ SS := by omega
    have HS : Hid (∀ j x, R[j]? = some x → ∃ y z, x = [y, z] ∧ (-1000 ≤ T j + z ∧ T j + z ≤ 1000) ∧ T (j + 1) = T j + z ∧ F (j + 1) = (F j || decide (y = LL))) := cst
    have HT0 := Lib.hid ct0
    have HF0 := Lib.hid cf0
    have HTn := Lib.hid ctn
    have HFn := Lib.hid cfn
    clear cst ct0 cf0 ctn cfn G hsb hlb hlo hhi hb1 hb2
    go_wp2_with fail
    clear hw0 hw1 hw2 hw3 hw4 hw5 hx1 hx2 hx3
    go_loopw [22, 23, 24] (fun t f i wr => ∃ j : Nat, j ≤ R.length ∧ i = .int .i64 j ∧ (∃ z : Int, t = .int .i64 z ∧ Hid (z = T j)) ∧ (∃ z : Bool, f = .bool z ∧ Hid (z = F j)) ∧ Hid (Upd [] w10 wr)) (fun _ _ i _ => R.length - (intOf i).toNat)
    case atStart => exact ⟨0, by omega, rfl, ⟨0, rfl, HT0.out.symm⟩, ⟨false, rfl, HF0.out.symm⟩, V⟩
    case round =>
      clear V HT0 HF0
      obtain ⟨j, hj, rfl, ⟨z, rfl, HZ⟩, ⟨f, rfl, HF⟩, V⟩ := hrel
      by_cases hlt : j < R.length
      · obtain ⟨ab, ao, x, a', c', rfl, hc, HI, hx⟩ := (HO2.out _ V.out).1.get hlt
        obtain ⟨bb, bo, x2, b', d', rfl, hd, HI2, hx2⟩ := (HO2.out _ V.out).2.get hlt
        obtain rfl : x2 = x := by have := hx.out; rw [hx2.out] at this; simpa using this
        obtain ⟨y1, y2, rfl, hb, ht, hf⟩ := HS.out j _ hx.out
        obtain ⟨gb, go, ea, hg0, hg1⟩ := pair_at HI.out
        obtain ⟨kb, ko, eb, hk0, hk1⟩ := pair_at HI2.out
        subst ea
        subst eb
        have hcc : wr.cell? ⟨ab, ao + j, none⟩ = some (.slice (some ⟨gb, go, none⟩) 2 c') := hc
        have hdd : wr.cell? ⟨bb, bo + j, none⟩ = some (.slice (some ⟨kb, ko, none⟩) 2 d') := hd
        have i3 := HR1.out
        have i1 : (0 : Int) ≤ (j : Int) := by omega
        have i2 : (j : Int) < (R.length : Int) := by omega
        have hzb : IntKind.i64.wrap (z + y2) = z + y2 := by rw [HZ.out]; exact IntWalk.i64_in _ (by omega)
        have HZn : Hid (z + y2 = T (j + 1)) := by rw [HZ.out, ht]; exact rfl
        have HFn2 : Hid ((f || decide (y1 = LL)) = F (j + 1)) := by rw [HF.out, hf]; exact rfl
        clear hc hd HI HI2 hx hx2 hb ht hf HZ HF
        cases f
        · by_cases hy : y1 = LL
          · have HN : Hid (true = F (j + 1)) := by show _ = _; rw [← HFn2.out]; simp [hy]
            have hyb : (y1 == LL) = true := beq_iff_eq.2 hy
            clear HFn2 hy
            go_wp2_with fail
            go_roundw
            case rel => exact ⟨j + 1, by omega, by go_num, ⟨_, rfl, HZn⟩, ⟨_, rfl, HN⟩, V⟩
            case measure => simp [intOf]; omega
          · have HN : Hid (false = F (j + 1)) := by show _ = _; rw [← HFn2.out]; simp [hy]
            have hyb : (y1 == LL) = false := by simpa using hy
            clear HFn2 hy
            go_wp2_with fail
            go_roundw
            case rel => exact ⟨j + 1, by omega, by go_num, ⟨_, rfl, HZn⟩, ⟨_, rfl, HN⟩, V⟩
            case measure => simp [intOf]; omega
        · have HN : Hid (true = F (j + 1)) := by show _ = _; rw [← HFn2.out]; rfl
          clear HFn2
          go_wp2_with fail
          go_roundw
          case rel => exact ⟨j + 1, by omega, by go_num, ⟨_, rfl, HZn⟩, ⟨_, rfl, HN⟩, V⟩
          case measure => simp [intOf]; omega
      · obtain rfl : j = R.length := by omega
        obtain rfl : z = h := by rw [HZ.out]; exact HTn.out
        obtain rfl : f = true := by rw [HF.out]; exact HFn.out
        obtain ⟨c0, -⟩ := HXA.out _ V.out
        clear HZ HF HTn HFn HO2 HS
        go_wp2_with fail
        go_ret
        exact ⟨rfl, U.out.then0 V.out⟩
end Go.Proofs.Ytbjeaadnanimfaa
