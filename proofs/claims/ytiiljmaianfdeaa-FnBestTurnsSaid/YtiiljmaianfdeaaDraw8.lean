/- The draws of chapter 8. -/
import Derived.Test.YtiiljmaianfdeaaZeros
import Derived.Deep.CutBlock
import Derived.Test.YtiiljmaianfdeaaLaws8P
import Derived.Deep.RegionWith
namespace Go.Proofs.Ytiiljmaianfdeaa
open Go.RowKit
set_option linter.unusedVariables false
set_option linter.unusedSimpArgs false

set_option maxRecDepth 20000 in
set_option maxHeartbeats 3200000 in
theorem l08Effect_c (g : Nat) (a : Option Addr) (c : Nat) (bs : List Int) (w : World) (h : DC w g a c bs) : Calls Try.prog 60 #[.pointer (some ⟨g, 0, none⟩)] w (DrawL 1 4 w g a c bs) := by
  have D := Lib.hid h
  have HgB : Hid (∀ k, k ∈ [g] → k < w.heap.size) := fun k hk => by rw [List.mem_singleton.1 hk]; exact h.lt
  have U : Hid (Upd [g] w w) := (Upd.refl w).mono (by simp)
  clear h
  go_enter Try.func60, Try.ntmps60
  go_wp2_with fail
  refine (l01Next_c g a c bs _ _ D.out).mono ?_
  rintro e wn ⟨x, rfl, hx, hd, hu⟩
  replace D := Lib.hid hd
  replace U := Lib.hid (U.out.then1 hu)
  clear hd hu
  go_wp2_with fail
  refine (l01Next_c g a c bs _ _ D.out).mono ?_
  rintro e wn ⟨y, rfl, hy, hd, hu⟩
  replace D := Lib.hid hd
  replace U := Lib.hid (U.out.then1 hu)
  clear hd hu
  go_wp2_with fail
  refine (l01Next_c g a c bs _ _ D.out).mono ?_
  rintro e wn ⟨z, rfl, hz, hd, hu⟩
  replace D := Lib.hid hd
  replace U := Lib.hid (U.out.then1 hu)
  clear hd hu
  have O : Hid (OwnI (wn.alloc (.cells #[.int .i64 (3 + x), .int .i64 y, .int .i64 z] 2)) w.heap.size (.slice (some ⟨wn.heap.size, 0, none⟩) 3 3) [3 + x, y, z]) := lit_own U.out.size [3 + x, y, z] (by simp)
  replace D := Lib.hid (D.out.kept0 ((Upd.refl wn).alloc (.cells #[.int .i64 (3 + x), .int .i64 y, .int .i64 z] 2)))
  replace U := Lib.hid (U.out.alloc (.cells #[.int .i64 (3 + x), .int .i64 y, .int .i64 z] 2))
  go_wp2_with fail
  obtain ⟨o0, ho0⟩ : ∃ k, wn.heap.size = k := ⟨_, rfl⟩
  generalize wn.alloc (.cells #[.int .i64 (3 + x), .int .i64 y, .int .i64 z] 2) = wm at D U O ⊢
  rw [ho0] at O ⊢
  clear ho0
  refine (l01Next_c g a c bs _ _ D.out).mono ?_
  rintro e wn ⟨n, rfl, hn, hd, hu⟩
  replace D := Lib.hid hd
  replace U := Lib.hid (U.out.then1 hu)
  replace O := Lib.hid (O.out.kept hu HgB.out)
  clear hd hu
  obtain ⟨N, hN⟩ : ∃ N : Nat, 1 + n = N := ⟨(1 + n).toNat, by omega⟩
  have hN2 : 1 ≤ N ∧ N ≤ 3 := by omega
  have hN3 : n = (N : Int) - 1 := by omega
  have hw1 : IntKind.i64.wrap (1 + n) = (N : Int) := by rw [hN]; exact IntWalk.i64_in _ (by omega)
  have O2 : Hid (∃ ys, OwnI wn w.heap.size (.slice (some ⟨o0, 0, none⟩) N 3) ys ∧ ys.length = N) := ⟨_, O.out.cut (k := N) (by omega), by simp; omega⟩
  clear O hN hn
  subst hN3
  go_wp2_with fail
  obtain ⟨ys, ho, hl⟩ := O2.out
  have O := Lib.hid ho
  clear ho O2 hw1
  subst hl
  refine (l01Next_c g a c bs _ _ D.out).mono ?_
  rintro e wn ⟨k, rfl, hk, hd, hu⟩
  replace D := Lib.hid hd
  replace U := Lib.hid (U.out.then1 hu)
  replace O := Lib.hid (O.out.kept hu HgB.out)
  clear hd hu
  by_cases k0 : k = 0
  · subst k0
    go_wp2_with fail
    refine (l01Pick_c g a c bs _ _ [0, 20, 21] _ (D.out.kept0 ((Upd.refl _).alloc _)) (lit_ints _ [0, 20, 21]) (fun ad e => by cases e; exact D.out.lt) (by simp) (by simp)).mono ?_
    rintro e wn ⟨z, rfl, hz, hd, hu⟩
    replace D := Lib.hid hd
    replace U := Lib.hid ((U.out.alloc _).then1 hu)
    replace O := Lib.hid ((O.out.kept0 ((Upd.refl _).alloc _)).kept hu HgB.out)
    clear hd hu
    have hc := O.out.cell (k := 0) (List.getElem?_eq_getElem (by omega))
    have hf := O.out.free 0
    have O3 := Lib.hid (O.out.set 0 z (by omega))
    have hob : w.heap.size ≤ o0 := O.out.low o0 rfl
    have V : Upd [o0] wn (wn.setCell ⟨o0, 0, none⟩ (.int .i64 z)) := ((Upd.refl wn).mono (by simp)).setCell _ (.inl (by simp))
    have D3 := Lib.hid (D.out.kept V (fun k hk => by rw [List.mem_singleton.1 hk]; have := HgB.out g (by simp); omega))
    have U3 := Lib.hid (U.out.afterB V (fun k hk => by rw [List.mem_singleton.1 hk]; exact hob))
    clear V
    go_wp2_with fail
    go_ret
    exact ⟨_, _, rfl, by simpa using O3.out, by simp; omega, D3.out, U3.out⟩
  · by_cases k1 : k = 1
    · subst k1
      have O4 : Hid (OwnI (wn.alloc (.cells #[.int .i64 5, .int .i64 2, .int .i64 1, .int .i64 0] 2)) w.heap.size (.slice (some ⟨wn.heap.size, 0, none⟩) 4 4) [5, 2, 1, 0]) := lit_own U.out.size [5, 2, 1, 0] (by simp)
      replace D := Lib.hid (D.out.kept0 ((Upd.refl wn).alloc (.cells #[.int .i64 5, .int .i64 2, .int .i64 1, .int .i64 0] 2)))
      replace U := Lib.hid (U.out.alloc (.cells #[.int .i64 5, .int .i64 2, .int .i64 1, .int .i64 0] 2))
      go_wp2_with fail
      go_ret
      exact ⟨_, _, rfl, O4.out, by simp, D.out, U.out⟩
    · go_wp2_with fail
      go_ret
      exact ⟨_, _, rfl, O.out, by omega, D.out, U.out⟩
theorem after_one {xs es : List Int} {N j : Nat} {q M : Int} (hN : xs.length = N) (hj : j < N) (h : AllLe M xs) (hM : 0 ≤ M) (he : AllLe 20 es) (hl : (es.length : Int) ≤ 3) (hq : -1 ≤ q ∧ q ≤ 1) :
    AllLe (M + 120) (afterF xs es (oneF N j q)) ∧ (afterF xs es (oneF N j q)).length = N := by
  subst hN
  refine ⟨?_, afterF_length ..⟩
  rw [afterF_one _ _ _ _ hj]
  exact oneT_bd h hM he hl j hq
theorem l08After_m (b off c n : Nat) (a2 : Option Addr) (c2 : Nat) (a3 : Option Addr) (c3 : Nat) (xs ws ps : List Int) (M : Int) (w : World) (e : xs.length = n) (h : IntsAt w (some ⟨b, off, none⟩) xs) (h2 : IntsAt w a2 ws) (h3 : IntsAt w a3 ps)
    (hn : 1 ≤ (n : Int) ∧ (n : Int) ≤ 10) (hl : (ws.length : Int) ≤ 3) (hts : ps.length = n) (hM : 0 ≤ M ∧ M ≤ 1000000) (hx : AllLe M xs) (hw : AllLe 20 ws) (ht : AllLe 100 ps) :
    Calls Try.prog 70 #[.slice (some ⟨b, off, none⟩) n c, .slice a2 ws.length c2, .slice a3 n c3] w (NewI w (afterF xs ws ps)) := by
  have := l08After_n b off c n a2 a3 c2 c3 xs ws ps M w e h h2 h3 hn hl hts hM hx hw ht
  rw [hts] at this; exact this
theorem AllLe.set {M : Int} {xs : List Int} (h : AllLe M xs) (k : Nat) {z : Int} (hz : -M ≤ z ∧ z ≤ M) : AllLe M (xs.set k z) := fun x hx => by
  rcases List.mem_or_eq_of_mem_set hx with h1 | rfl
  · exact h x h1
  · exact hz
set_option maxRecDepth 20000 in
set_option maxHeartbeats 6400000 in
theorem l08Draw_c (g : Nat) (a : Option Addr) (c : Nat) (bs : List Int) (p : Option Addr) (d : Nat) (es : List Int) (w : World) (h : DC w g a c bs) (hx : IntsAt w p es) (hp : ∀ ad, p = some ad → ad.block ≠ g) (hel : es.length ≤ 1000) :
    Calls Try.prog 61 #[.pointer (some ⟨g, 0, none⟩), .slice p es.length d] w (DrawL 3 13 w g a c bs) := by
  have D := Lib.hid h
  have HgB : Hid (∀ k, k ∈ [g] → k < w.heap.size) := fun k hk => by rw [List.mem_singleton.1 hk]; exact h.lt
  have U : Hid (Upd [g] w w) := (Upd.refl w).mono (by simp)
  have HX : Hid (∀ w', Upd [g] w w' → IntsAt w' p es) := fun w' u => hx.kept u fun ad e => by have := hp ad e; simp; omega
  clear h hx hp
  go_enter Try.func61, Try.ntmps61
  go_wp2_with fail
  refine (l01Pick_c g a c bs _ _ [4, 6, 8, 5] _ (D.out.kept0 ((Upd.refl _).alloc _)) (lit_ints _ [4, 6, 8, 5]) (fun ad e => by cases e; exact D.out.lt) (by simp) (by simp)).mono ?_
  rintro e wn ⟨n, rfl, hn, hd, hu⟩
  replace D := Lib.hid hd
  replace U := Lib.hid ((U.out.alloc _).then1 hu)
  clear hd hu
  obtain ⟨N, hN⟩ : ∃ N : Nat, n = N := ⟨n.toNat, by simp at hn; omega⟩
  subst hN
  have hN2 : 4 ≤ N ∧ N ≤ 8 := by simp at hn; omega
  clear hn
  obtain ⟨w1, ew1⟩ : ∃ x : World, x = wn := ⟨_, rfl⟩
  subst ew1
  go_wp2_with (at_make; refine wpList_mkI rfl _ _ rfl .i64 .i64 N rfl rfl (by omega) (Upd.refl _) ?_; intro w2 h1 h2 h3; have O := Lib.hid (h1.mono U.out.size); replace D := Lib.hid (D.out.kept0 h2); replace U := Lib.hid (U.out.then0 h2); clear h1 h2 h3)
  refine (sIsEffect_c p d es _ (HX.out _ U.out) (by omega)).mono ?_
  rintro e w' ⟨rfl, rfl⟩
  obtain ⟨o0, ho0⟩ : ∃ k, w1.heap.size = k := ⟨_, rfl⟩
  rw [ho0] at O ⊢
  clear ho0
  have O1 : Hid (∃ xs, OwnI w2 w.heap.size (.slice (some ⟨o0, 0, none⟩) N N) xs ∧ xs.length = N ∧ AllLe 0 xs) := ⟨_, O.out, by simp, zeros_bd N 0 (by omega)⟩
  clear O
  go_upto_if 15 with fail
  go_cut [6] from 14 (fun v wx => ∃ (ob oc : Nat), v = .slice (some ⟨ob, 0, none⟩) N oc ∧ Hid (∃ xs, OwnI wx w.heap.size (.slice (some ⟨ob, 0, none⟩) N oc) xs ∧ xs.length = N ∧ AllLe 480 xs) ∧ Hid (DC wx g a c bs) ∧ Hid (Upd [g] w wx))
  case first =>
    by_cases he : effB es = true
    · have HE : Hid (AllLe 20 es ∧ (es.length : Int) ≤ 3) := ⟨fun x hx => by have := (effB_t he).1 x hx; omega, (effB_t he).2.2.1⟩
      rw [he]
      clear he
      go_wp2_with fail
      obtain ⟨xs, q1, q2, q3⟩ := O1.out
      have O := Lib.hid q1
      have HQ := Lib.hid (show _ ∧ _ from ⟨q2, q3⟩)
      clear q1 q2 q3 O1
      refine (l01Next_c g a c bs _ _ D.out).mono ?_
      rintro e wn ⟨k, rfl, hk, hd, hu⟩
      replace D := Lib.hid hd
      replace U := Lib.hid (U.out.then1 hu)
      replace O := Lib.hid (O.out.kept hu HgB.out)
      clear hd hu
      obtain ⟨k0, hk0⟩ : ∃ N : Nat, k = N := ⟨k.toNat, by omega⟩
      subst hk0
      have hk4 : k0 ≤ 4 := by omega
      clear hk
      have O2 : Hid (∃ xs, OwnI wn w.heap.size (.slice (some ⟨o0, 0, none⟩) N N) xs ∧ xs.length = N ∧ AllLe (120 * (4 - (k0 : Int))) xs) := ⟨xs, O.out, HQ.out.1, HQ.out.2.mono (by omega)⟩
      clear O HQ
      go_wp2_with fail
      go_loopw [6, 7] (fun v i wr => ∃ (m ob oc : Nat), m ≤ 4 ∧ i = .int .i64 m ∧ v = .slice (some ⟨ob, 0, none⟩) N oc ∧ Hid (∃ xs, OwnI wr w.heap.size (.slice (some ⟨ob, 0, none⟩) N oc) xs ∧ xs.length = N ∧ AllLe (120 * (4 - (m : Int))) xs) ∧ Hid (DC wr g a c bs) ∧ Hid (Upd [g] w wr)) (fun _ i _ => (intOf i).toNat)
      case atStart => exact ⟨k0, o0, N, hk4, rfl, rfl, O2, D, U⟩
      case round =>
        clear O2 D U hk4
        obtain ⟨m, ob, oc, hm, rfl, rfl, O2, D, U⟩ := hrel
        by_cases hm0 : 0 < m
        · obtain ⟨xs, q1, q2, q3⟩ := O2.out
          have O := Lib.hid q1
          have HQ := Lib.hid (show _ ∧ _ from ⟨q2, q3⟩)
          clear q1 q2 q3 O2
          go_wp2_with fail
          refine (l01Next_c g a c bs _ _ D.out).mono ?_
          rintro e wn ⟨x, rfl, hx, hd, hu⟩
          replace D := Lib.hid hd
          replace U := Lib.hid (U.out.then1 hu)
          replace O := Lib.hid (O.out.kept hu HgB.out)
          clear hd hu
          obtain ⟨j, hj⟩ : ∃ N : Nat, x = N := ⟨x.toNat, by omega⟩
          subst hj
          have hj : j < N := by omega
          clear hx
          go_wp2_with fail
          refine (l01Pick_c g a c bs _ _ [1, -1] _ (D.out.kept0 ((Upd.refl _).alloc _)) (lit_ints _ [1, -1]) (fun ad e => by cases e; exact D.out.lt) (by simp) (by simp)).mono ?_
          rintro e wn ⟨q, rfl, hq, hd, hu⟩
          replace D := Lib.hid hd
          replace U := Lib.hid ((U.out.alloc _).then1 hu)
          replace O := Lib.hid ((O.out.kept0 ((Upd.refl _).alloc _)).kept hu HgB.out)
          clear hd hu
          have hqb : -1 ≤ q ∧ q ≤ 1 := by simp at hq; omega
          clear hq
          obtain ⟨w5, ew5⟩ : ∃ x : World, x = wn := ⟨_, rfl⟩
          subst ew5
          go_wp2_with fail
          refine (l07One_c N j q _ (by omega) hj).mono ?_
          rintro e w6 ⟨v, rfl, o, hu⟩
          obtain ⟨p1, d1, ev, i1, -⟩ := o.intsAt
          rw [oneF_length] at ev
          subst ev
          have I1 := Lib.hid i1
          replace O := Lib.hid (O.out.kept0 hu)
          replace D := Lib.hid (D.out.kept0 hu)
          replace U := Lib.hid (U.out.then0 hu)
          clear o i1 hu
          go_wp2_with fail
          have HA := Lib.hid (after_one HQ.out.1 hj HQ.out.2 (by omega) HE.out.1 HE.out.2 hqb)
          refine (l08After_m ob 0 oc N p d p1 d1 _ _ _ (120 * (4 - (m : Int))) _ HQ.out.1 O.out.ints (HX.out _ U.out) I1.out (by omega) HE.out.2 (oneF_length ..) (by omega) HQ.out.2 HE.out.1 (oneF_bd N j (by omega))).mono ?_
          rintro e w7 ⟨v, rfl, o, hu⟩
          obtain ⟨o7, c7, ev, -⟩ := o.row (by have := HA.out.2; omega)
          rw [HA.out.2] at ev
          subst ev
          have O7 : Hid (∃ xs, OwnI w7 w.heap.size (.slice (some ⟨o7, 0, none⟩) N c7) xs ∧ xs.length = N ∧ AllLe (120 * (4 - ((m - 1 : Nat) : Int))) xs) := ⟨_, o.mono U.out.size, HA.out.2, HA.out.1.mono (by omega)⟩
          replace D := Lib.hid (D.out.kept0 hu)
          replace U := Lib.hid (U.out.then0 hu)
          clear o hu O I1 HA HQ
          go_wp2_with fail
          go_roundw
          case rel => exact ⟨m - 1, o7, c7, by omega, by go_num, rfl, O7, D, U⟩
          case measure => simp [intOf]; omega
        · have O3 : Hid (∃ xs, OwnI wr w.heap.size (.slice (some ⟨ob, 0, none⟩) N oc) xs ∧ xs.length = N ∧ AllLe 480 xs) := O2.out.imp fun xs h => ⟨h.1, h.2.1, h.2.2.mono (by omega)⟩
          clear O2
          go_wp2_with fail
          go_meet
          case rel => exact ⟨ob, oc, rfl, O3, D, U⟩
    · have he' : effB es = false := by cases q : effB es <;> simp_all
      rw [he']
      have O3 : Hid (∃ xs, OwnI w2 w.heap.size (.slice (some ⟨o0, 0, none⟩) N N) xs ∧ xs.length = N ∧ AllLe 480 xs) := O1.out.imp fun xs h => ⟨h.1, h.2.1, h.2.2.mono (by omega)⟩
      clear O1 he he'
      go_wp2_with fail
      go_meet
      case rel => exact ⟨o0, N, rfl, O3, D, U⟩
  case rest =>
    clear O1 D U HX hel
    obtain ⟨ob, oc, rfl, O1, D, U⟩ := hcut
    go_wp2_with fail
    go_loopw [8] (fun i wr => ∃ k : Nat, k ≤ N ∧ i = .int .i64 k ∧ Hid (∃ xs, OwnI wr w.heap.size (.slice (some ⟨ob, 0, none⟩) N oc) xs ∧ xs.length = N ∧ AllLe (480 + 2 * (k : Int)) xs) ∧ Hid (DC wr g a c bs) ∧ Hid (Upd [g] w wr)) (fun i _ => N - (intOf i).toNat)
    case atStart => exact ⟨0, by omega, rfl, by simpa using O1, D, U⟩
    case round =>
      clear O1 D U
      obtain ⟨k, hk, rfl, O1, D, U⟩ := hrel
      obtain ⟨xs, q1, q2, q3⟩ := O1.out
      have O := Lib.hid q1
      have HL := Lib.hid q2
      have HQ := Lib.hid q3
      clear q1 q2 q3 O1
      by_cases hlt : k < N
      · obtain ⟨x, hx⟩ : ∃ x, xs[k]? = some x := ⟨_, List.getElem?_eq_getElem (by have := HL.out; omega)⟩
        have hxb := HQ.out x (mem_of_get hx)
        have HXX := Lib.hid hx
        have hc1 := O.out.cell hx
        have hf1 := O.out.free k
        have i1 : (0 : Int) ≤ (k : Int) := by omega
        have i2 : (k : Int) < (N : Int) := by omega
        obtain ⟨w5, ew5⟩ : ∃ x : World, x = wr := ⟨_, rfl⟩
        subst ew5
        have DD : Hid (∀ w', Upd [] w5 w' → DC w' g a c bs) := fun w' u => D.out.kept0 u
        clear hx D
        go_wp2_with fail
        go_region_with (go_at_call 50; refine (l01Next_c g a c bs _ _ (DD.out _ ?_)).mono ?_; exact (Upd.refl _).drew; rintro e w6 ⟨y, rfl, hy, hd, hu⟩; have V := Lib.hid (((Upd.refl w5).drew.mono (hs := [g]) (by simp)).then1 hu); have D6 := Lib.hid hd; have O6 := Lib.hid (O.out.kept V.out HgB.out); have U6 := Lib.hid (U.out.then1 V.out); clear hd hu V; have hc6 := O6.out.cell HXX.out; have hf6 := O6.out.free k; have hw1 : IntKind.i64.wrap (x + y) = x + y := IntWalk.i64_in _ (by omega); have hw2 : IntKind.i64.wrap (x + y - 2) = x + y - 2 := IntWalk.i64_in _ (by omega))
        all_goals
          clear hw1 hw2 hc1 hf1 hc6 hf6
          have hob : w.heap.size ≤ ob := O6.out.low ob rfl
          have HN : Hid (∃ xs', OwnI (w6.setCell ⟨ob, k, none⟩ (.int .i64 (x + y - 2))) w.heap.size (.slice (some ⟨ob, 0, none⟩) N oc) xs' ∧ xs'.length = N ∧ AllLe (480 + 2 * ((k + 1 : Nat) : Int)) xs') := ⟨_, O6.out.set k _ (by have := HL.out; omega), by simp; exact HL.out, (HQ.out.mono (by omega)).set k (by omega)⟩
          have V6 : Upd [ob] w6 (w6.setCell ⟨ob, k, none⟩ (.int .i64 (x + y - 2))) := ((Upd.refl w6).mono (by simp)).setCell _ (.inl (by simp))
          have D7 := Lib.hid (D6.out.kept V6 (fun k hk => by rw [List.mem_singleton.1 hk]; have := HgB.out g (by simp); omega))
          have U7 := Lib.hid (U6.out.afterB V6 (fun k hk => by rw [List.mem_singleton.1 hk]; exact hob))
          clear V6
          go_wp2_with fail
          go_roundw
          case rel => exact ⟨k + 1, by omega, by go_num, HN, D7, U7⟩
          case measure => simp [intOf]; omega
      · obtain rfl : k = N := by omega
        obtain ⟨w5, ew5⟩ : ∃ x : World, x = wr := ⟨_, rfl⟩
        subst ew5
        have hlx : xs.length = k := HL.out
        clear HQ HL
        subst hlx
        go_wp2_with fail
        refine (l01Next_c g a c bs _ _ D.out).mono ?_
        rintro e wn ⟨z, rfl, hz, hd, hu⟩
        replace D := Lib.hid hd
        replace U := Lib.hid (U.out.then1 hu)
        replace O := Lib.hid (O.out.kept hu HgB.out)
        clear hd hu
        by_cases z0 : z = 0
        · subst z0
          go_wp2_with fail
          refine (l01Pick_c g a c bs _ _ [-501, -500, 500, 501] _ (D.out.kept0 ((Upd.refl _).alloc _)) (lit_ints _ [-501, -500, 500, 501]) (fun ad e => by cases e; exact D.out.lt) (by simp) (by simp)).mono ?_
          rintro e wn ⟨y, rfl, hy, hd, hu⟩
          replace D := Lib.hid hd
          replace U := Lib.hid ((U.out.alloc _).then1 hu)
          replace O := Lib.hid ((O.out.kept0 ((Upd.refl _).alloc _)).kept hu HgB.out)
          clear hd hu
          have hob : w.heap.size ≤ ob := O.out.low ob rfl
          have hc := O.out.cell (k := 0) (List.getElem?_eq_getElem (by omega))
          have hf := O.out.free 0
          have O3 := Lib.hid (O.out.set 0 y (by omega))
          have V : Upd [ob] wn (wn.setCell ⟨ob, 0, none⟩ (.int .i64 y)) := ((Upd.refl wn).mono (by simp)).setCell _ (.inl (by simp))
          have D3 := Lib.hid (D.out.kept V (fun k hk => by rw [List.mem_singleton.1 hk]; have := HgB.out g (by simp); omega))
          have U3 := Lib.hid (U.out.afterB V (fun k hk => by rw [List.mem_singleton.1 hk]; exact hob))
          clear V
          go_wp2_with fail
          go_ret
          exact ⟨_, _, rfl, by simpa using O3.out, by simp; omega, D3.out, U3.out⟩
        · by_cases z1 : z = 1
          · subst z1
            have hcp := O.out.cap.1
            go_wp2_with fail
            go_ret
            exact ⟨_, _, rfl, O.out.cut (k := 3) (by omega), by simp; omega, D.out, U.out⟩
          · by_cases z2 : z = 2
            · subst z2
              go_wp2_with (at_builtin; refine wpList_appZ rfl _ _ rfl _ _ 5 .i64 rfl rfl O.out (by omega) U.out.size (by omega) (by omega) (by omega) ?_; intro v' w9 z1 z2; have Z1 := Lib.hid z1; have DZ := Lib.hid (D.out.kept z2 (fun k hk => by have := (O.out.low k (Option.mem_toList.1 hk)); have := HgB.out g (by simp); omega)); have UZ := Lib.hid (U.out.afterB z2 (fun k hk => O.out.low k (Option.mem_toList.1 hk))); clear z1 z2)
              go_ret
              exact ⟨_, _, rfl, Z1.out, by simp; omega, DZ.out, UZ.out⟩
            · go_wp2_with fail
              go_ret
              exact ⟨_, _, rfl, O.out, by omega, D.out, U.out⟩
end Go.Proofs.Ytiiljmaianfdeaa
