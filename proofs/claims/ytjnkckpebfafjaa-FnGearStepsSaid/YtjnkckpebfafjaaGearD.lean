/- Chapter 9: orders, steps, equal gears. -/
import Derived.Test.YtjnkckpebfafjaaOrdS
import Derived.Test.YtjnkckpebfafjaaRowFns
import Derived.Deep.RegionHeld3
namespace Go.Proofs.Ytjnkckpebfafjaa
open Go.RowKit
set_option linter.unusedVariables false
set_option linter.unusedSimpArgs false

def rowsOf (P : List (Nat × Nat)) : List (List Int) := P.map fun e => [(e.1 : Int), (e.2 : Int)]
/-- New rows beside a code. -/
def NewRC (w : World) (rows : List (List Int)) (code : Int) (e : Ending) (w' : World) : Prop :=
  ∃ v L, e = .returned (.tuple #[v, .int .i64 code]) ∧ OwnR w' w.heap.size v L ∧ L.map (·.2.2) = rows ∧ Upd [] w w'
/-- Rows that are read, beside a code. -/
def ReadRC (w : World) (rows : List (List Int)) (code : Int) (e : Ending) (w' : World) : Prop :=
  ∃ a c, e = .returned (.tuple #[.slice a rows.length c, .int .i64 code]) ∧ RowsAt w' a rows ∧ Upd [] w w'
theorem NewRC.read {w w' : World} {rows : List (List Int)} {code : Int} {e : Ending} (h : NewRC w rows code e w') : ReadRC w rows code e w' := by
  obtain ⟨v, L, rfl, h1, h2, h3⟩ := h
  obtain ⟨a, c, rfl, -, -⟩ := h1.1.form
  refine ⟨a, c, ?_, ?_, h3⟩
  · rw [← h2]; simp
  · rw [← h2]; exact h1.rowsAt
noncomputable def ordL (fs rs : List Int) (n : Int) : List (Nat × Nat) := if trB fs rs n then orderF fs rs else []
theorem GS.rows {w : World} {B : Nat} {v : Value} {P : List (Nat × Nat)} (h : GS w B v P) : ∃ L, OwnR w B v L ∧ L.map (·.2.2) = rowsOf P := by
  obtain ⟨L, h1, h2⟩ := h
  refine ⟨L, h1, ?_⟩
  have h3 : L.map (·.2.2) = (L.map (·.2)).map (·.2) := by rw [List.map_map]; rfl
  rw [h3, h2, List.map_map]; rfl
/-- The order: its length, its gears. -/
theorem ord_facts {fs rs : List Int} {n : Int} (q : trB fs rs n = true) : 1 ≤ (orderF fs rs).length ∧ (orderF fs rs).length ≤ 36 ∧ InG fs rs (orderF fs rs) ∧ SrtG fs rs (orderF fs rs) := by
  obtain ⟨⟨t1, t2⟩, ⟨t3, t4⟩, t5⟩ := trB_t q
  have h := ordG_srt (fs := fs) t4 (Nat.le_refl fs.length)
  refine ⟨?_, ?_, h.2, h.1⟩
  · rw [orderF_length]; exact Nat.mul_pos (by omega) (by omega)
  · rw [orderF_length]; exact Nat.mul_le_mul t1.2 t3.2
def pAt (P : List (Nat × Nat)) (k : Nat) : Nat × Nat := P.getD k (0, 0)
theorem pAt_get {P : List (Nat × Nat)} {k : Nat} (h : k < P.length) : P[k]? = some (pAt P k) := by unfold pAt; rw [List.getD_eq_getElem?_getD, List.getElem?_eq_getElem h]; rfl
def eqN (fs rs : List Int) (P : List (Nat × Nat)) : Nat → List (Nat × Nat)
  | 0 => []
  | k + 1 => if cmpG fs rs (pAt P k) (pAt P (k + 1)) = 0 then eqN fs rs P k ++ [pAt P (k + 1)] else eqN fs rs P k
theorem eqN_le (fs rs : List Int) (P : List (Nat × Nat)) (k : Nat) : (eqN fs rs P k).length ≤ k := by
  induction k with
  | zero => simp [eqN]
  | succ k ih =>
    simp only [eqN]; split
    · simp; omega
    · omega
theorem pair_cells {w : World} {g f r : Nat} (h : IntsAt w (some ⟨g, 0, none⟩) [(f : Int), (r : Int)]) : w.cell? ⟨g, 0, none⟩ = some (.int .i64 f) ∧ w.cell? ⟨g, 1, none⟩ = some (.int .i64 r) := by
  rcases h with h | ⟨b, off, e, hc⟩
  · simp at h
  · cases e; exact ⟨hc 0 _ (by simp), hc 1 _ (by simp)⟩
theorem tooth_cell {w : World} {b o : Nat} {xs : List Int} (h : IntsAt w (some ⟨b, o, none⟩) xs) {k : Nat} (hk : k < xs.length) : w.cell? ⟨b, o + k, none⟩ = some (.int .i64 (tooth xs k)) := by
  obtain ⟨b', o', e, hc⟩ := tooth_at h hk
  cases e; exact hc
theorem ints_some {w : World} {a : Option Addr} {xs : List Int} (h : IntsAt w a xs) (hl : 0 < xs.length) : ∃ b o, a = some ⟨b, o, none⟩ := by
  obtain ⟨b, o, e, -⟩ := tooth_at h hl
  exact ⟨b, o, e⟩
section
variable {ops : Array Oper} {o : Oper} {a : Act} {w : World} {K : Act → World → Prop} {Q : Exit → Act → World → Prop} {E : Prop}
/-- 'append(out, y)' in a region that draws. -/
theorem step_appI (hgd : o.guard = none) (s x : Operand) (hop : o.op = .call { callee := .builtin .append, args := #[s, x], argTypes := #[24, 24] })
    (B b : Nat) (v : Value) (xs : List Int) (y : Int) (hs : a.eval s = v) (hx : a.eval x = .slice (some ⟨b, 0, none⟩) 1 1) (hc : w.cell? ⟨b, 0, none⟩ = some (.int .i64 y))
    (hown : OwnI w B v xs) (hB : B ≤ w.heap.size) (hl : xs.length ≤ 2097152)
    (h : ∀ v' w', OwnI w' B v' (xs ++ [y]) → Upd v.ownBlock.toList w w' → K (a.put o.dst v') w') :
    if Region.wanted o (yielded ops a.tmps) = true then Oper.wp Try.prog o a w K Q else E := by
  have hw : Region.wanted o (yielded ops a.tmps) = true := by simp [Region.wanted, hgd]
  rw [if_pos hw]
  obtain ⟨i0, hi, hz0, hz1, hz2⟩ := info_parts infoI
  refine wp_append_own w s x 24 hop B 2 i0 (.int .i64 0) 1 8 Try.underlying24 hi hz0 hz1 hz2 rfl (by decide) _ xs.length (xs.map (.int .i64)) hs hown
    ⟨b, 0, none⟩ 1 1 [.int .i64 y] hx rfl (one_news hc rfl) (by simp [Value.oneCell']) (by unfold maxLen; omega) (by omega) hB fun v' w' h1 h2 _ => h v' w' ?_ ?_
  · unfold OwnI; simpa using h1
  · exact ((Upd.refl w).mono (by simp)).grown h2 fun k hk => .inl (by simp [hk])
end
noncomputable def eqL (fs rs : List Int) (n : Int) : List (Nat × Nat) := if trB fs rs n then eqN fs rs (orderF fs rs) ((orderF fs rs).length - 1) else []
def stepF (fs rs : List Int) (a b : Nat × Nat) : Int := (1000 * cmpG fs rs b a).tdiv (tooth fs a.1 * tooth rs b.2)
def stN (fs rs : List Int) (P : List (Nat × Nat)) : Nat → List Int
  | 0 => []
  | k + 1 => stN fs rs P k ++ [stepF fs rs (pAt P k) (pAt P (k + 1))]
theorem stN_length (fs rs : List Int) (P : List (Nat × Nat)) (k : Nat) : (stN fs rs P k).length = k := by
  induction k with
  | zero => rfl
  | succ k ih => simp [stN, ih]
noncomputable def stL (fs rs : List Int) (n : Int) : List Int := if trB fs rs n then stN fs rs (orderF fs rs) ((orderF fs rs).length - 1) else []
theorem cmpG_bd {fs rs : List Int} (ht : TeethOk fs) (hu : TeethOk rs) {a b : Nat × Nat} (ha : a.1 < fs.length ∧ a.2 < rs.length) (hb : b.1 < fs.length ∧ b.2 < rs.length) :
    -3600 ≤ cmpG fs rs a b ∧ cmpG fs rs a b ≤ 3600 ∧ 1 ≤ tooth fs a.1 * tooth rs b.2 ∧ tooth fs a.1 * tooth rs b.2 ≤ 3600 := by
  have g1 := ht.at ha.1
  have g2 := hu.at ha.2
  have g3 := ht.at hb.1
  have g4 := hu.at hb.2
  have m1 := mul_box (a := tooth fs a.1) (b := tooth rs b.2) (A := 60) (B := 60) (by omega) (by omega)
  have m2 := mul_box (a := tooth fs b.1) (b := tooth rs a.2) (A := 60) (B := 60) (by omega) (by omega)
  have m3 := Int.mul_pos (a := tooth fs a.1) (b := tooth rs b.2) (by omega) (by omega)
  unfold cmpG
  omega
set_option maxHeartbeats 3200000 in
theorem iGearOrder_c (a1 a2 : Option Addr) (c1 c2 : Nat) (fs rs : List Int) (n : Int) (w : World) (h1 : IntsAt w a1 fs) (h2 : IntsAt w a2 rs) (hl1 : fs.length ≤ 1048576) (hl2 : rs.length ≤ 1048576) :
    Calls Try.prog 16 #[.agg #[.slice a1 fs.length c1, .slice a2 rs.length c2, .int .i64 n]] w (NewRC w (rowsOf (ordL fs rs n)) (rgE fs rs n)) := by
  have H : Hid (∀ w', Upd [] w w' → IntsAt w' a1 fs ∧ IntsAt w' a2 rs) := fun w' u => ⟨h1.kept0 u, h2.kept0 u⟩
  clear h1 h2
  have B0 := Lib.hid (Box.new w (.slice a1 fs.length c1) (.slice a2 rs.length c2) (.int .i64 n) 26)
  have U0 := Lib.hid ((Upd.refl w).alloc (.cells #[.slice a1 fs.length c1, .slice a2 rs.length c2, .int .i64 n] 26))
  obtain ⟨hb0, hb1, hb2⟩ := B0.out.cells
  cases q : trB fs rs n
  · have HN : Hid (rowsOf (ordL fs rs n) = [] ∧ rgE fs rs n = 1) := by constructor <;> simp [ordL, rgE, rowsOf, q]
    go_enter Try.func16, Try.ntmps16
    go_wp2_with fail
    refine (iIsTrain_c a1 a2 _ _ fs rs _ _ (H.out _ U0.out).1 (H.out _ U0.out).2 hl1 hl2).mono ?_
    rintro e w1 ⟨rfl, u1⟩
    replace B0 := Lib.hid (B0.out.kept u1 (by simp))
    have U1 := Lib.hid (U0.out.then0 u1)
    clear u1 U0 hb0 hb1 hb2
    obtain ⟨hb0, hb1, hb2⟩ := B0.out.cells
    go_wp2_with fail
    go_ret2
    rw [HN.out.1, HN.out.2]
    exact ⟨_, [], rfl, ⟨OwnV.nil _ _, Inn.nil _ _⟩, rfl, U1.out⟩
  · obtain ⟨⟨t1, t2⟩, ⟨t3, t4⟩, t5⟩ := trB_t q
    have HOF := Lib.hid (ord_facts q)
    have HN : Hid (rowsOf (ordL fs rs n) = rowsOf (orderF fs rs) ∧ rgE fs rs n = 0) := by constructor <;> simp [ordL, rgE, rowsOf, q]
    go_enter Try.func16, Try.ntmps16
    go_wp2_with fail
    refine (iIsTrain_c a1 a2 _ _ fs rs _ _ (H.out _ U0.out).1 (H.out _ U0.out).2 hl1 hl2).mono ?_
    rintro e w1 ⟨rfl, u1⟩
    replace B0 := Lib.hid (B0.out.kept u1 (by simp))
    have U1 := Lib.hid (U0.out.then0 u1)
    clear u1 U0 hb0 hb1 hb2
    obtain ⟨hb0, hb1, hb2⟩ := B0.out.cells
    go_wp2_with fail
    refine (gearOrder_c a1 a2 _ _ fs rs n _ (H.out _ U1.out).1 (H.out _ U1.out).2 hl1 hl2 t2 t4 t1.2 t3.2).mono ?_
    rintro e w2 ⟨v, rfl, hg, u1⟩
    replace B0 := Lib.hid (B0.out.kept u1 (by simp))
    have U2 := Lib.hid (U1.out.then0 u1)
    have HS12 : Hid (w.heap.size ≤ w1.heap.size) := U1.out.size
    have HG := Lib.hid hg
    clear hg u1 U1 hb0 hb1 hb2
    go_wp2_with fail
    go_ret2
    rw [HN.out.1, HN.out.2]
    obtain ⟨L, g1, g2⟩ := (HG.out.mono HS12.out).rows
    exact ⟨_, L, rfl, g1, g2, U2.out⟩
set_option maxHeartbeats 3200000 in
theorem sGearOrder_c (a1 a2 : Option Addr) (c1 c2 : Nat) (fs rs : List Int) (n : Int) (w : World) (h1 : IntsAt w a1 fs) (h2 : IntsAt w a2 rs) (hl1 : fs.length ≤ 1048576) (hl2 : rs.length ≤ 1048576) :
    Calls Try.prog 17 #[.agg #[.slice a1 fs.length c1, .slice a2 rs.length c2, .int .i64 n]] w (NewRC w (rowsOf (ordL fs rs n)) (rgE fs rs n)) := by
  have H : Hid (∀ w', Upd [] w w' → IntsAt w' a1 fs ∧ IntsAt w' a2 rs) := fun w' u => ⟨h1.kept0 u, h2.kept0 u⟩
  clear h1 h2
  have B0 := Lib.hid (Box.new w (.slice a1 fs.length c1) (.slice a2 rs.length c2) (.int .i64 n) 26)
  have U0 := Lib.hid ((Upd.refl w).alloc (.cells #[.slice a1 fs.length c1, .slice a2 rs.length c2, .int .i64 n] 26))
  obtain ⟨hb0, hb1, hb2⟩ := B0.out.cells
  cases q : trB fs rs n
  · have HN : Hid (rowsOf (ordL fs rs n) = [] ∧ rgE fs rs n = 1) := by constructor <;> simp [ordL, rgE, rowsOf, q]
    go_enter Try.func17, Try.ntmps17
    go_wp2_with fail
    refine (sIsTrain_c a1 a2 _ _ fs rs _ _ (H.out _ U0.out).1 (H.out _ U0.out).2 hl1 hl2).mono ?_
    rintro e w1 ⟨rfl, u1⟩
    replace B0 := Lib.hid (B0.out.kept u1 (by simp))
    have U1 := Lib.hid (U0.out.then0 u1)
    clear u1 U0 hb0 hb1 hb2
    obtain ⟨hb0, hb1, hb2⟩ := B0.out.cells
    go_wp2_with fail
    go_ret2
    rw [HN.out.1, HN.out.2]
    exact ⟨_, [], rfl, ⟨OwnV.nil _ _, Inn.nil _ _⟩, rfl, U1.out⟩
  · obtain ⟨⟨t1, t2⟩, ⟨t3, t4⟩, t5⟩ := trB_t q
    have HOF := Lib.hid (ord_facts q)
    have HN : Hid (rowsOf (ordL fs rs n) = rowsOf (orderF fs rs) ∧ rgE fs rs n = 0) := by constructor <;> simp [ordL, rgE, rowsOf, q]
    go_enter Try.func17, Try.ntmps17
    go_wp2_with fail
    refine (sIsTrain_c a1 a2 _ _ fs rs _ _ (H.out _ U0.out).1 (H.out _ U0.out).2 hl1 hl2).mono ?_
    rintro e w1 ⟨rfl, u1⟩
    replace B0 := Lib.hid (B0.out.kept u1 (by simp))
    have U1 := Lib.hid (U0.out.then0 u1)
    clear u1 U0 hb0 hb1 hb2
    obtain ⟨hb0, hb1, hb2⟩ := B0.out.cells
    go_wp2_with fail
    refine (l09Order_c a1 a2 _ _ fs rs n _ (H.out _ U1.out).1 (H.out _ U1.out).2 hl1 hl2 t2 t4 t1.2 t3.2).mono ?_
    rintro e w2 ⟨v, rfl, hg, u1⟩
    replace B0 := Lib.hid (B0.out.kept u1 (by simp))
    have U2 := Lib.hid (U1.out.then0 u1)
    have HS12 : Hid (w.heap.size ≤ w1.heap.size) := U1.out.size
    have HG := Lib.hid hg
    clear hg u1 U1 hb0 hb1 hb2
    go_wp2_with fail
    go_ret2
    rw [HN.out.1, HN.out.2]
    obtain ⟨L, g1, g2⟩ := (HG.out.mono HS12.out).rows
    exact ⟨_, L, rfl, g1, g2, U2.out⟩
set_option maxHeartbeats 3200000 in
theorem iStepsOf_c (a1 a2 : Option Addr) (c1 c2 : Nat) (fs rs : List Int) (n : Int) (w : World) (h1 : IntsAt w a1 fs) (h2 : IntsAt w a2 rs) (hl1 : fs.length ≤ 1048576) (hl2 : rs.length ≤ 1048576) :
    Calls Try.prog 26 #[.agg #[.slice a1 fs.length c1, .slice a2 rs.length c2, .int .i64 n]] w (NewIC w (stL fs rs n) (rgE fs rs n)) := by
  have H : Hid (∀ w', Upd [] w w' → IntsAt w' a1 fs ∧ IntsAt w' a2 rs) := fun w' u => ⟨h1.kept0 u, h2.kept0 u⟩
  clear h1 h2
  have B0 := Lib.hid (Box.new w (.slice a1 fs.length c1) (.slice a2 rs.length c2) (.int .i64 n) 26)
  have U0 := Lib.hid ((Upd.refl w).alloc (.cells #[.slice a1 fs.length c1, .slice a2 rs.length c2, .int .i64 n] 26))
  obtain ⟨hb0, hb1, hb2⟩ := B0.out.cells
  cases q : trB fs rs n
  · have HN : Hid (stL fs rs n = [] ∧ rgE fs rs n = 1) := by constructor <;> simp [stL, rgE, q]
    go_enter Try.func26, Try.ntmps26
    go_wp2_with fail
    refine (iIsTrain_c a1 a2 _ _ fs rs _ _ (H.out _ U0.out).1 (H.out _ U0.out).2 hl1 hl2).mono ?_
    rintro e w1 ⟨rfl, u1⟩
    replace B0 := Lib.hid (B0.out.kept u1 (by simp))
    have U1 := Lib.hid (U0.out.then0 u1)
    clear u1 U0 hb0 hb1 hb2
    obtain ⟨hb0, hb1, hb2⟩ := B0.out.cells
    go_wp2_with fail
    go_ret2
    rw [HN.out.1, HN.out.2]
    exact ⟨_, rfl, OwnI.nil _ _, U1.out⟩
  · obtain ⟨⟨t1, t2⟩, ⟨t3, t4⟩, t5⟩ := trB_t q
    have HOF := Lib.hid (ord_facts q)
    have HN : Hid (stL fs rs n = stN fs rs (orderF fs rs) ((orderF fs rs).length - 1) ∧ rgE fs rs n = 0) := by constructor <;> simp [stL, rgE, q]
    go_enter Try.func26, Try.ntmps26
    go_wp2_with fail
    refine (iIsTrain_c a1 a2 _ _ fs rs _ _ (H.out _ U0.out).1 (H.out _ U0.out).2 hl1 hl2).mono ?_
    rintro e w1 ⟨rfl, u1⟩
    replace B0 := Lib.hid (B0.out.kept u1 (by simp))
    have U1 := Lib.hid (U0.out.then0 u1)
    clear u1 U0 hb0 hb1 hb2
    obtain ⟨hb0, hb1, hb2⟩ := B0.out.cells
    go_wp2_with fail
    refine (gearOrder_c a1 a2 _ _ fs rs n _ (H.out _ U1.out).1 (H.out _ U1.out).2 hl1 hl2 t2 t4 t1.2 t3.2).mono ?_
    rintro e w2 ⟨v, rfl, hg, u1⟩
    replace B0 := Lib.hid (B0.out.kept u1 (by simp))
    have U2 := Lib.hid (U1.out.then0 u1)
    have HS12 : Hid (w.heap.size ≤ w1.heap.size) := U1.out.size
    have HG := Lib.hid hg
    clear hg u1 U1 hb0 hb1 hb2
    generalize orderF fs rs = P at HOF HN HG
    obtain ⟨pa, pc, ev⟩ := HG.out.form
    subst ev
    have hP1 : 1 ≤ P.length := HOF.out.1
    have hP2 : P.length ≤ 36 := HOF.out.2.1
    have HIn := Lib.hid HOF.out.2.2.1
    clear HOF
    obtain ⟨b3, o3, ev⟩ := ints_some (H.out _ U2.out).1 (by omega)
    subst ev
    obtain ⟨b4, o4, ev⟩ := ints_some (H.out _ U2.out).2 (by omega)
    subst ev
    have HO : Hid (OwnI w2 w2.heap.size (.slice none 0 0) (stN fs rs P 0)) := OwnI.nil _ _
    have V2 : Hid (Upd [] w2 w2) := Upd.refl w2
    go_wp2_with fail
    go_loopw [5, 6] (fun v i wr => ∃ k : Nat, k + 1 ≤ P.length ∧ i = .int .i64 ((k + 1 : Nat) : Int) ∧ Hid (OwnI wr w2.heap.size v (stN fs rs P k)) ∧ Hid (Upd [] w2 wr)) (fun _ i _ => P.length - (intOf i).toNat)
    case atStart => exact ⟨0, by omega, rfl, HO, V2⟩
    case round =>
      clear HO V2
      obtain ⟨k, hk, rfl, HO, V3⟩ := hrel
      obtain ⟨w3, ew3⟩ : ∃ x : World, x = wr := ⟨_, rfl⟩
      subst ew3
      have U3 := Lib.hid (U2.out.then0 V3.out)
      have B3 := Lib.hid (B0.out.kept V3.out (by simp))
      by_cases hlt : k + 1 < P.length
      · skip
        obtain ⟨a, ea⟩ : ∃ a, pAt P k = a := ⟨_, rfl⟩
        obtain ⟨b, eb⟩ : ∃ b, pAt P (k + 1) = b := ⟨_, rfl⟩
        have ga := pAt_get (P := P) (k := k) (by omega)
        have gb := pAt_get hlt
        rw [ea] at ga
        rw [eb] at gb
        have ina := HIn.out a (mem_of_get ga)
        have inb := HIn.out b (mem_of_get gb)
        obtain ⟨ob, oc, gx, ev, hca, HA⟩ := HG.out.get ga
        cases ev
        obtain ⟨gy, hcb, HB⟩ := HG.out.cell gb
        replace hca := V3.out.cell hca (by simp)
        replace hcb := V3.out.cell hcb (by simp)
        have HEa := Lib.hid ea
        have HEb := Lib.hid eb
        clear ea eb ga gb
        have HNx : Hid (stN fs rs P (k + 1) = stN fs rs P k ++ [stepF fs rs a b]) := by show _ = _; rw [stN, HEa.out, HEb.out]
        have HLn := Lib.hid (stN_length fs rs P k)
        have HOl : Hid ((stN fs rs P k).length ≤ 2097152) := by show _ ≤ _; rw [HLn.out]; omega
        have HSS : Hid (∀ w', Upd [] w2 w' → w'.cell? ⟨w.heap.size, 0, none⟩ = some (.slice (some ⟨b3, o3, none⟩) fs.length c1) ∧ w'.cell? ⟨w.heap.size, 1, none⟩ = some (.slice (some ⟨b4, o4, none⟩) rs.length c2) ∧ w'.cell? ⟨w.heap.size, 2, none⟩ = some (.int .i64 n) ∧
            w'.cell? ⟨gx, 0, none⟩ = some (.int .i64 a.1) ∧ w'.cell? ⟨gx, 1, none⟩ = some (.int .i64 a.2) ∧ w'.cell? ⟨gy, 0, none⟩ = some (.int .i64 b.1) ∧ w'.cell? ⟨gy, 1, none⟩ = some (.int .i64 b.2) ∧
            w'.cell? ⟨b3, o3 + a.1, none⟩ = some (.int .i64 (tooth fs a.1)) ∧ w'.cell? ⟨b3, o3 + b.1, none⟩ = some (.int .i64 (tooth fs b.1)) ∧ w'.cell? ⟨b4, o4 + a.2, none⟩ = some (.int .i64 (tooth rs a.2)) ∧ w'.cell? ⟨b4, o4 + b.2, none⟩ = some (.int .i64 (tooth rs b.2))) := fun w' u => by
          obtain ⟨q1, q2, q3⟩ := (B0.out.kept u (by simp)).cells
          have q4 := pair_cells (HA.out.kept0 u)
          have q5 := pair_cells (HB.out.kept0 u)
          have q6 := H.out _ (U2.out.then0 u)
          exact ⟨q1, q2, q3, q4.1, q4.2, q5.1, q5.2, tooth_cell q6.1 ina.1, tooth_cell q6.1 inb.1, tooth_cell q6.2 ina.2, tooth_cell q6.2 inb.2⟩
        obtain ⟨hb0, hb1, hb2⟩ := B3.out.cells
        have i1 : (0 : Int) ≤ ((k + 1 : Nat) : Int) - 1 := by omega
        have i2 : ((k + 1 : Nat) : Int) - 1 < (P.length : Int) := by omega
        have i3 : (0 : Int) ≤ ((k + 1 : Nat) : Int) := by omega
        have i4 : ((k + 1 : Nat) : Int) < (P.length : Int) := by omega
        have i5 : (((k + 1 : Nat) : Int) - 1).toNat = k := by omega
        have i6 : (0 : Int) ≤ (k : Int) := by omega
        have i7 : (k : Int) < (P.length : Int) := by omega
        have hw1 : IntKind.i64.wrap (((k + 1 : Nat) : Int) - 1) = ((k + 1 : Nat) : Int) - 1 := IntWalk.i64_in _ (by omega)
        have hw2 : IntKind.i64.wrap ((k : Int) + 1 - 1) = (k : Int) := by rw [show (k : Int) + 1 - 1 = k by omega]; exact IntWalk.i64_in _ (by omega)
        go_wp2_with fail
        go_quiet (fail)
        clear i1 i2 i3 i4 i5 i6 i7 hw1 hw2 hca hcb hb0 hb1 hb2
        replace HO := Lib.hid (HO.out.kept0 ((Upd.refl w3).drewN nq))
        replace V3 := Lib.hid (V3.out.drewN nq)
        replace U3 := Lib.hid (U3.out.drewN nq)
        clear B3
        generalize w3.drewN nq = w4 at HO V3 U3 ⊢
        have gbd := cmpG_bd t2 t4 inb ina
        have gbd2 := (cmpG_bd t2 t4 ina inb).2.2
        have m3 := tdiv_bd (1000 * cmpG fs rs b a) (tooth fs a.1 * tooth rs b.2) 3600000 (by omega) (by omega)
        obtain ⟨s1, s2, s3, s4, s5, s6, s7, s8, s9, s10, s11⟩ := HSS.out _ V3.out
        have i1 : (0 : Int) ≤ (a.1 : Int) := by omega
        have i2 : (a.1 : Int) < (fs.length : Int) := by omega
        have i3 : (0 : Int) ≤ (b.2 : Int) := by omega
        have i4 : (b.2 : Int) < (rs.length : Int) := by omega
        have i5 : (0 : Int) ≤ (b.1 : Int) := by omega
        have i6 : (b.1 : Int) < (fs.length : Int) := by omega
        have i7 : (0 : Int) ≤ (a.2 : Int) := by omega
        have i8 : (a.2 : Int) < (rs.length : Int) := by omega
        have hne : ¬ (tooth fs a.1 * tooth rs b.2 = 0) := by omega
        have hw1 : IntKind.i64.wrap (tooth fs a.1 * tooth rs b.2) = tooth fs a.1 * tooth rs b.2 := IntWalk.i64_in _ (by omega)
        have hw3 : IntKind.i64.wrap (1000 * cmpG fs rs b a) = 1000 * cmpG fs rs b a := IntWalk.i64_in _ (by omega)
        have hw4 : IntKind.i64.wrap ((1000 * cmpG fs rs b a).tdiv (tooth fs a.1 * tooth rs b.2)) = (1000 * cmpG fs rs b a).tdiv (tooth fs a.1 * tooth rs b.2) := IntWalk.i64_in _ (by omega)
        have V4 := Lib.hid (V3.out.drew)
        have U4 := Lib.hid (U3.out.drew)
        have HO4 := Lib.hid (HO.out.kept0 (Upd.refl w4).drew)
        go_wp2_with fail
        go_region_held3 (fun w' => w'.cell? ⟨w.heap.size, 0, none⟩ = some (.slice (some ⟨b3, o3, none⟩) fs.length c1) ∧ w'.cell? ⟨w.heap.size, 1, none⟩ = some (.slice (some ⟨b4, o4, none⟩) rs.length c2) ∧ w'.cell? ⟨w.heap.size, 2, none⟩ = some (.int .i64 n) ∧
            w'.cell? ⟨gx, 0, none⟩ = some (.int .i64 a.1) ∧ w'.cell? ⟨gx, 1, none⟩ = some (.int .i64 a.2) ∧ w'.cell? ⟨gy, 0, none⟩ = some (.int .i64 b.1) ∧ w'.cell? ⟨gy, 1, none⟩ = some (.int .i64 b.2) ∧
            w'.cell? ⟨b3, o3 + a.1, none⟩ = some (.int .i64 (tooth fs a.1)) ∧ w'.cell? ⟨b3, o3 + b.1, none⟩ = some (.int .i64 (tooth fs b.1)) ∧ w'.cell? ⟨b4, o4 + a.2, none⟩ = some (.int .i64 (tooth rs a.2)) ∧ w'.cell? ⟨b4, o4 + b.2, none⟩ = some (.int .i64 (tooth rs b.2)))
          (first | exact HSS.out _ V3.out | exact HSS.out _ V4.out | exact HSS.out _ V5.out | exact HSS.out _ (V5.out.alloc _) | exact HSS.out _ V7.out)
          (first
            | (go_at_call 50
               refine (compareRatios_c _ _ _ _ fs rs n _ (H.out _ U4.out).1 (H.out _ U4.out).2 hl1 hl2 _ _ _ _ b.1 b.2 a.1 a.2 _ rfl (HB.out.kept0 V4.out) (HA.out.kept0 V4.out) inb.1 inb.2 ina.1 ina.2 t2 t4).mono ?_
               rintro e w5 ⟨rfl, u1⟩
               have V5 := Lib.hid (V4.out.then0 u1)
               have HO5 := Lib.hid (HO4.out.kept0 u1)
               clear u1)
            | (refine step_appI rfl _ _ rfl w2.heap.size w5.heap.size _ (stN fs rs P k) (stepF fs rs a b) rfl rfl (cell_last w5 _ _ _ rfl) (HO5.out.kept0 ((Upd.refl w5).alloc _)) (V5.out.alloc _).size HOl.out ?_
               intro v' w7 z1 z2
               have Z1 := Lib.hid z1
               have V7 := Lib.hid ((V5.out.alloc _).after0 z2 (fun x hx => ((World.ownsRow.lt (w := w5) HO5.out) x (Option.mem_toList.1 hx)).1))
               clear z1 z2))
        go_wp2_with fail
        clear hw1 hw3 hw4 s1 s2 s3 s4 s5 s6 s7 s8 s9 s10 s11
        go_roundw
        case rel => exact ⟨k + 1, by omega, by go_num, by rw [HNx.out]; exact Z1, V7⟩
        case measure => simp [intOf]; omega
      · obtain rfl : k = P.length - 1 := by omega
        go_wp2_with fail
        go_ret2
        rw [HN.out.1, HN.out.2]
        exact ⟨_, rfl, HO.out.mono (by have := HS12.out; have := U2.out.size; omega), U3.out⟩
set_option maxHeartbeats 3200000 in
theorem sStepsOf_c (a1 a2 : Option Addr) (c1 c2 : Nat) (fs rs : List Int) (n : Int) (w : World) (h1 : IntsAt w a1 fs) (h2 : IntsAt w a2 rs) (hl1 : fs.length ≤ 1048576) (hl2 : rs.length ≤ 1048576) :
    Calls Try.prog 27 #[.agg #[.slice a1 fs.length c1, .slice a2 rs.length c2, .int .i64 n]] w (NewIC w (stL fs rs n) (rgE fs rs n)) := by
  have H : Hid (∀ w', Upd [] w w' → IntsAt w' a1 fs ∧ IntsAt w' a2 rs) := fun w' u => ⟨h1.kept0 u, h2.kept0 u⟩
  clear h1 h2
  have B0 := Lib.hid (Box.new w (.slice a1 fs.length c1) (.slice a2 rs.length c2) (.int .i64 n) 26)
  have U0 := Lib.hid ((Upd.refl w).alloc (.cells #[.slice a1 fs.length c1, .slice a2 rs.length c2, .int .i64 n] 26))
  obtain ⟨hb0, hb1, hb2⟩ := B0.out.cells
  cases q : trB fs rs n
  · have HN : Hid (stL fs rs n = [] ∧ rgE fs rs n = 1) := by constructor <;> simp [stL, rgE, q]
    go_enter Try.func27, Try.ntmps27
    go_wp2_with fail
    refine (sIsTrain_c a1 a2 _ _ fs rs _ _ (H.out _ U0.out).1 (H.out _ U0.out).2 hl1 hl2).mono ?_
    rintro e w1 ⟨rfl, u1⟩
    replace B0 := Lib.hid (B0.out.kept u1 (by simp))
    have U1 := Lib.hid (U0.out.then0 u1)
    clear u1 U0 hb0 hb1 hb2
    obtain ⟨hb0, hb1, hb2⟩ := B0.out.cells
    go_wp2_with fail
    go_ret2
    rw [HN.out.1, HN.out.2]
    exact ⟨_, rfl, OwnI.nil _ _, U1.out⟩
  · obtain ⟨⟨t1, t2⟩, ⟨t3, t4⟩, t5⟩ := trB_t q
    have HOF := Lib.hid (ord_facts q)
    have HN : Hid (stL fs rs n = stN fs rs (orderF fs rs) ((orderF fs rs).length - 1) ∧ rgE fs rs n = 0) := by constructor <;> simp [stL, rgE, q]
    go_enter Try.func27, Try.ntmps27
    go_wp2_with fail
    refine (sIsTrain_c a1 a2 _ _ fs rs _ _ (H.out _ U0.out).1 (H.out _ U0.out).2 hl1 hl2).mono ?_
    rintro e w1 ⟨rfl, u1⟩
    replace B0 := Lib.hid (B0.out.kept u1 (by simp))
    have U1 := Lib.hid (U0.out.then0 u1)
    clear u1 U0 hb0 hb1 hb2
    obtain ⟨hb0, hb1, hb2⟩ := B0.out.cells
    go_wp2_with fail
    refine (l09Order_c a1 a2 _ _ fs rs n _ (H.out _ U1.out).1 (H.out _ U1.out).2 hl1 hl2 t2 t4 t1.2 t3.2).mono ?_
    rintro e w2 ⟨v, rfl, hg, u1⟩
    replace B0 := Lib.hid (B0.out.kept u1 (by simp))
    have U2 := Lib.hid (U1.out.then0 u1)
    have HS12 : Hid (w.heap.size ≤ w1.heap.size) := U1.out.size
    have HG := Lib.hid hg
    clear hg u1 U1 hb0 hb1 hb2
    generalize orderF fs rs = P at HOF HN HG
    obtain ⟨pa, pc, ev⟩ := HG.out.form
    subst ev
    have hP1 : 1 ≤ P.length := HOF.out.1
    have hP2 : P.length ≤ 36 := HOF.out.2.1
    have HIn := Lib.hid HOF.out.2.2.1
    clear HOF
    obtain ⟨b3, o3, ev⟩ := ints_some (H.out _ U2.out).1 (by omega)
    subst ev
    obtain ⟨b4, o4, ev⟩ := ints_some (H.out _ U2.out).2 (by omega)
    subst ev
    have HO : Hid (OwnI (w2.alloc (.cells #[] 2)) w2.heap.size (.slice (some ⟨w2.heap.size, 0, none⟩) 0 0) (stN fs rs P 0)) := OwnI.lit (Upd.refl w2)
    have V2 := Lib.hid ((Upd.refl w2).alloc (.cells #[] 2))
    go_wp2_with fail
    go_loopw [5, 6] (fun v i wr => ∃ k : Nat, k + 1 ≤ P.length ∧ i = .int .i64 ((k + 1 : Nat) : Int) ∧ Hid (OwnI wr w2.heap.size v (stN fs rs P k)) ∧ Hid (Upd [] w2 wr)) (fun _ i _ => P.length - (intOf i).toNat)
    case atStart => exact ⟨0, by omega, rfl, HO, V2⟩
    case round =>
      clear HO V2
      obtain ⟨k, hk, rfl, HO, V3⟩ := hrel
      obtain ⟨w3, ew3⟩ : ∃ x : World, x = wr := ⟨_, rfl⟩
      subst ew3
      have U3 := Lib.hid (U2.out.then0 V3.out)
      have B3 := Lib.hid (B0.out.kept V3.out (by simp))
      by_cases hlt : k + 1 < P.length
      · skip
        obtain ⟨a, ea⟩ : ∃ a, pAt P k = a := ⟨_, rfl⟩
        obtain ⟨b, eb⟩ : ∃ b, pAt P (k + 1) = b := ⟨_, rfl⟩
        have ga := pAt_get (P := P) (k := k) (by omega)
        have gb := pAt_get hlt
        rw [ea] at ga
        rw [eb] at gb
        have ina := HIn.out a (mem_of_get ga)
        have inb := HIn.out b (mem_of_get gb)
        obtain ⟨ob, oc, gx, ev, hca, HA⟩ := HG.out.get ga
        cases ev
        obtain ⟨gy, hcb, HB⟩ := HG.out.cell gb
        replace hca := V3.out.cell hca (by simp)
        replace hcb := V3.out.cell hcb (by simp)
        have HEa := Lib.hid ea
        have HEb := Lib.hid eb
        clear ea eb ga gb
        have HNx : Hid (stN fs rs P (k + 1) = stN fs rs P k ++ [stepF fs rs a b]) := by show _ = _; rw [stN, HEa.out, HEb.out]
        have HLn := Lib.hid (stN_length fs rs P k)
        have HOl : Hid ((stN fs rs P k).length ≤ 2097152) := by show _ ≤ _; rw [HLn.out]; omega
        have HSS : Hid (∀ w', Upd [] w2 w' → w'.cell? ⟨w.heap.size, 0, none⟩ = some (.slice (some ⟨b3, o3, none⟩) fs.length c1) ∧ w'.cell? ⟨w.heap.size, 1, none⟩ = some (.slice (some ⟨b4, o4, none⟩) rs.length c2) ∧ w'.cell? ⟨w.heap.size, 2, none⟩ = some (.int .i64 n) ∧
            w'.cell? ⟨gx, 0, none⟩ = some (.int .i64 a.1) ∧ w'.cell? ⟨gx, 1, none⟩ = some (.int .i64 a.2) ∧ w'.cell? ⟨gy, 0, none⟩ = some (.int .i64 b.1) ∧ w'.cell? ⟨gy, 1, none⟩ = some (.int .i64 b.2) ∧
            w'.cell? ⟨b3, o3 + a.1, none⟩ = some (.int .i64 (tooth fs a.1)) ∧ w'.cell? ⟨b3, o3 + b.1, none⟩ = some (.int .i64 (tooth fs b.1)) ∧ w'.cell? ⟨b4, o4 + a.2, none⟩ = some (.int .i64 (tooth rs a.2)) ∧ w'.cell? ⟨b4, o4 + b.2, none⟩ = some (.int .i64 (tooth rs b.2))) := fun w' u => by
          obtain ⟨q1, q2, q3⟩ := (B0.out.kept u (by simp)).cells
          have q4 := pair_cells (HA.out.kept0 u)
          have q5 := pair_cells (HB.out.kept0 u)
          have q6 := H.out _ (U2.out.then0 u)
          exact ⟨q1, q2, q3, q4.1, q4.2, q5.1, q5.2, tooth_cell q6.1 ina.1, tooth_cell q6.1 inb.1, tooth_cell q6.2 ina.2, tooth_cell q6.2 inb.2⟩
        obtain ⟨hb0, hb1, hb2⟩ := B3.out.cells
        have i1 : (0 : Int) ≤ ((k + 1 : Nat) : Int) - 1 := by omega
        have i2 : ((k + 1 : Nat) : Int) - 1 < (P.length : Int) := by omega
        have i3 : (0 : Int) ≤ ((k + 1 : Nat) : Int) := by omega
        have i4 : ((k + 1 : Nat) : Int) < (P.length : Int) := by omega
        have i5 : (((k + 1 : Nat) : Int) - 1).toNat = k := by omega
        have i6 : (0 : Int) ≤ (k : Int) := by omega
        have i7 : (k : Int) < (P.length : Int) := by omega
        have hw1 : IntKind.i64.wrap (((k + 1 : Nat) : Int) - 1) = ((k + 1 : Nat) : Int) - 1 := IntWalk.i64_in _ (by omega)
        have hw2 : IntKind.i64.wrap ((k : Int) + 1 - 1) = (k : Int) := by rw [show (k : Int) + 1 - 1 = k by omega]; exact IntWalk.i64_in _ (by omega)
        go_wp2_with fail
        go_quiet (fail)
        clear i1 i2 i3 i4 i5 i6 i7 hw1 hw2 hca hcb hb0 hb1 hb2
        replace HO := Lib.hid (HO.out.kept0 ((Upd.refl w3).drewN nq))
        replace V3 := Lib.hid (V3.out.drewN nq)
        replace U3 := Lib.hid (U3.out.drewN nq)
        clear B3
        generalize w3.drewN nq = w4 at HO V3 U3 ⊢
        have gbd := cmpG_bd t2 t4 inb ina
        have gbd2 := (cmpG_bd t2 t4 ina inb).2.2
        have m3 := tdiv_bd (1000 * cmpG fs rs b a) (tooth fs a.1 * tooth rs b.2) 3600000 (by omega) (by omega)
        obtain ⟨s1, s2, s3, s4, s5, s6, s7, s8, s9, s10, s11⟩ := HSS.out _ V3.out
        have i1 : (0 : Int) ≤ (a.1 : Int) := by omega
        have i2 : (a.1 : Int) < (fs.length : Int) := by omega
        have i3 : (0 : Int) ≤ (b.2 : Int) := by omega
        have i4 : (b.2 : Int) < (rs.length : Int) := by omega
        have i5 : (0 : Int) ≤ (b.1 : Int) := by omega
        have i6 : (b.1 : Int) < (fs.length : Int) := by omega
        have i7 : (0 : Int) ≤ (a.2 : Int) := by omega
        have i8 : (a.2 : Int) < (rs.length : Int) := by omega
        have hne : ¬ (tooth fs a.1 * tooth rs b.2 = 0) := by omega
        have hw1 : IntKind.i64.wrap (tooth fs a.1 * tooth rs b.2) = tooth fs a.1 * tooth rs b.2 := IntWalk.i64_in _ (by omega)
        have hw3 : IntKind.i64.wrap (1000 * cmpG fs rs b a) = 1000 * cmpG fs rs b a := IntWalk.i64_in _ (by omega)
        have hw4 : IntKind.i64.wrap ((1000 * cmpG fs rs b a).tdiv (tooth fs a.1 * tooth rs b.2)) = (1000 * cmpG fs rs b a).tdiv (tooth fs a.1 * tooth rs b.2) := IntWalk.i64_in _ (by omega)
        have hcm : tooth fs b.1 * tooth rs a.2 - tooth fs a.1 * tooth rs b.2 = cmpG fs rs b a := rfl
        have m5 := (cmpG_bd t2 t4 inb ina).2.2
        have hw2 : IntKind.i64.wrap (tooth fs b.1 * tooth rs a.2) = tooth fs b.1 * tooth rs a.2 := IntWalk.i64_in _ (by omega)
        have hw5 : IntKind.i64.wrap (cmpG fs rs b a) = cmpG fs rs b a := IntWalk.i64_in _ (by omega)
        go_wp2_with fail
        go_quiet (fail)
        clear s1 s2 s3 s4 s5 s6 s7 s8 s9 s10 s11
        replace HO := Lib.hid (HO.out.kept0 ((Upd.refl w4).drewN nq))
        replace V3 := Lib.hid (V3.out.drewN nq)
        generalize w4.drewN nq = w5 at HO V3 ⊢
        go_wp2_with (at_builtin; refine wpList_appI rfl _ _ rfl _ _ _ rfl rfl HO.out V3.out HOl.out ?_; intro v' w6 z1 z2; have Z1 := Lib.hid z1; have Z2 := Lib.hid z2; clear z1 z2)
        clear hw1 hw2 hw3 hw4 hw5 hcm
        go_roundw
        case rel => exact ⟨k + 1, by omega, by go_num, by rw [HNx.out]; exact Z1, Z2⟩
        case measure => simp [intOf]; omega
      · obtain rfl : k = P.length - 1 := by omega
        go_wp2_with fail
        go_ret2
        rw [HN.out.1, HN.out.2]
        exact ⟨_, rfl, HO.out.mono (by have := HS12.out; have := U2.out.size; omega), U3.out⟩
end Go.Proofs.Ytjnkckpebfafjaa
