/- 'append(out, make([]int64, k)...)', out the call's own: its run, whatever room there is. -/
import Derived.Test.YtiiljmaianfdeaaDraw3
import Derived.Lib.AppendZerosOnto
namespace Go.Proofs.Ytiiljmaianfdeaa
open Go.RowKit
set_option linter.unusedVariables false
set_option linter.unusedSimpArgs false

theorem zeroCells_int (k : Nat) : Builtin.zeroCells (Value.int .i64 0).cells k = (List.replicate k (Value.int .i64 0)).toArray := by
  apply Array.ext
  · simp [Builtin.zeroCells, Value.cells]
  · intro i h1 h2
    simp [Builtin.zeroCells, Value.cells, Nat.mod_one]
theorem run_room_zeros {P : Program} (w : World) (t tn ty e : TypeId) (i : TypeInfo) (z : Value) (kq kn : IntKind) (ht : P.underlying t = some (.slice e)) (htn : P.underlying tn = some (.int kn)) (hi : P.info? e = some i) (hz : i.zero = some z)
    (g sLen sCap : Nat) (cur : Array Value) (hg : w.heap[g]? = some (.cells cur e (0, 0))) (k : Nat) (h0 : 0 < k) (hk9 : k ≤ 1000) (hs : i.size = 1) (hby : i.bytes = 8)
    (news : List Value) (hn : Builtin.zeroCells z.cells k = news.toArray) (hnl : news.length = k) (h1 : ∀ u ∈ news, u.oneCell' = true) (hroom : sLen + k ≤ sCap) (hfit : sLen + k ≤ cur.size) :
    (Builtin.append_ #[t, tn] ty #[.slice (some ⟨g, 0, none⟩) sLen sCap, .int kq k]).run P w =
      .ok (.slice (some ⟨g, 0, none⟩) (sLen + k) sCap) (w.setRow g (cur.toList.take sLen ++ news ++ cur.toList.drop (sLen + k)).toArray) := by
  have hst := run_storeCells_at P g sLen e news 0 cur w hg (by omega) h1
  simp only [Nat.add_zero, hnl] at hst
  have hw : IntKind.i64.wrap (k : Int) = k := by rw [IntKind.wrap_i64]; omega
  have h48i : ¬ (281474976710656 < (k : Int) * 8) := by omega
  have hneg : ¬ ((k : Int) < 0) := by omega
  have hk : ¬ k = 0 := by omega
  simp [Builtin.append_, run_underlying ht, run_underlying htn, sizeOf, typeInfo, zeroValue, hi, hz, hs, hby, asInt, asIntOf, hw, hneg, h48i, hk, hroom, hn, Addr.add_lit, hst]
theorem run_app_zeros {w : World} {B : Nat} {v : Value} {xs : List Int} (h : OwnI w B v xs) (hne : 0 < xs.length) (hB : B ≤ w.heap.size) (hl : xs.length ≤ 1000) (k : Nat) (h0 : 0 < k) (hk : k ≤ 1000) (ty : TypeId) (kq : IntKind) :
    ∃ v' w', (Builtin.append_ #[24, 3] ty #[v, .int kq k]).run Try.prog w = .ok v' w' ∧ OwnI w' B v' (xs ++ List.replicate k 0) ∧ w.grownBy w' v.ownBlock := by
  obtain ⟨i0, hi, hz0, hz1, hz2⟩ := info_parts infoI
  have h1 : ∀ u ∈ List.replicate k (Value.int .i64 0), u.oneCell' = true := fun u hu => by rw [(List.mem_replicate.1 hu).2]; rfl
  have hmap : (xs ++ List.replicate k 0).map (Value.int .i64) = xs.map (Value.int .i64) ++ List.replicate k (Value.int .i64 0) := by simp
  rcases h.2 with ⟨rfl, e⟩ | ⟨g, cap, cur, rfl, hb, hg, hc, hm, hs, ht⟩
  · omega
  · rw [Nat.mul_one] at hs ht
    by_cases hroom : xs.length + k ≤ cap
    · have hr := run_room_zeros (P := Try.prog) w 24 3 ty 2 i0 (.int .i64 0) kq _ Try.underlying24 Try.underlying3 hi hz0 g xs.length cap cur hg k h0 hk hz1 hz2 _ (zeroCells_int k) (by simp) h1 hroom (by omega)
      refine ⟨_, _, hr, ?_, ⟨rfl, rfl, rfl, by simp, fun j _ hj => setRow_other w g j _ (fun e => hj (by simp [Value.ownBlock, e]))⟩⟩
      unfold OwnI
      rw [hmap]
      refine ⟨by simp, .inr ⟨g, cap, _, by simp, hb, setRow_heap w g cur _ 2 _ hg, by simp; omega, hm, ?_, ?_⟩⟩
      · simp only [List.size_toArray, List.length_append, List.length_take, List.length_drop, Array.length_toList, List.length_replicate, Nat.mul_one]
        omega
      · rw [ht]
        have : (xs ++ List.replicate k 0).length * 1 = (xs.map (Value.int .i64) ++ List.replicate k (Value.int .i64 0)).length := by simp
        rw [this]
        exact List.take_left
    · have holds : ∀ j u, (xs.map (Value.int .i64))[j]? = some u → w.drew.cell? ((⟨g, 0, none⟩ : Addr).add j) = some u := by
        intro j u hu
        exact (World.ownsRow.cells (w := w) h (g := g) rfl) j u hu
      have hold := run_firstCells_some (P := Try.prog) w.drew 1 xs.length ⟨g, 0, none⟩ xs.length cap (xs.map (Value.int .i64)) (by simp) holds
      have hcap : cap ≤ 2000 := by omega
      have hns : Builtin.nextslicecap (xs.length + k) cap ≤ 100000 := by
        unfold Builtin.nextslicecap
        split
        · omega
        · split
          · omega
          · have gb : ∀ (r c N : Nat), Builtin.growBy N r c ≤ max c (2 * (c + 768) * 2 ^ r) := by
              intro r
              induction r with
              | zero => intro c N; simp [Builtin.growBy]; omega
              | succ r ih =>
                intro c N
                rw [Builtin.growBy]
                split
                · omega
                · have := ih (c + (c + 768) / 4) N
                  have e2 : 2 ^ (r + 1) = 2 * 2 ^ r := by rw [Nat.pow_succ, Nat.mul_comm]
                  have h3 : 2 * (c + (c + 768) / 4 + 768) ≤ 2 * (c + 768) * 2 := by omega
                  have h4 : 2 * (c + (c + 768) / 4 + 768) * 2 ^ r ≤ 2 * (c + 768) * 2 * 2 ^ r := Nat.mul_le_mul_right _ h3
                  have h5 : 2 * (c + 768) * 2 ^ (r + 1) = 2 * (c + 768) * 2 * 2 ^ r := by rw [e2, ← Nat.mul_assoc]
                  have h6 : c + (c + 768) / 4 ≤ 2 * (c + 768) * 2 * 2 ^ r := by
                    have : 1 ≤ 2 ^ r := Nat.one_le_two_pow
                    have : 2 * (c + 768) * 2 * 1 ≤ 2 * (c + 768) * 2 * 2 ^ r := Nat.mul_le_mul_left _ this
                    omega
                  omega
            have := gb 4 cap (xs.length + k)
            omega
      have hr := Lib.run_append_grow_zeros (P := Try.prog) w 24 3 ty 2 i0 (.int .i64 0) kq _ Try.underlying24 Try.underlying3 hi hz0 (some ⟨g, 0, none⟩) xs.length cap (xs.map (Value.int .i64)) (by rw [hz1]; exact hold) k h0 (by omega) (by omega) (by omega) (by rw [hz2]; omega) (by rw [hz2]; omega)
      refine ⟨_, _, hr, ?_, ⟨rfl, rfl, rfl, by simp, fun j hj _ => heap_alloc_old w.drew _ hj⟩⟩
      have hge := grownCap_ge w (xs.length + k) cap 2
      have hcm : grownCap w (xs.length + k) cap 2 ≤ maxLen := grownCap_le_maxLen w (xs.length + k) cap 2 (by unfold maxLen; omega)
      unfold OwnI
      rw [hmap]
      refine ⟨by simp, .inr ⟨w.heap.size, _, _, by simp, hB, heap_alloc_new w.drew _, by simpa using hge, hcm, ?_, ?_⟩⟩
      · rw [zeroCells_int, zeroCells_int]; simp; omega
      · rw [zeroCells_int, zeroCells_int]
        simp only [Array.toList_append, List.append_assoc]
        rw [← List.append_assoc]
        have : (xs ++ List.replicate k 0).length * 1 = (xs.map (Value.int .i64) ++ List.replicate k (Value.int .i64 0)).length := by simp
        rw [this]
        exact List.take_left
section
variable {ops : Array Oper} {rest : List Oper} {o : Oper} {a : Act} {Q : Exit → Act → World → Prop}
/-- 'append(out, make([]int64, k)...)', out of one's own from block B on. -/
theorem wpList_appZ {w : World} {B : Nat} (hg : o.guard = none) (s x : Operand)
    (hop : o.op = .call { callee := .builtin .append, args := #[s, x], argTypes := #[24, 3] })
    (v : Value) (xs : List Int) (k : Nat) (kq : IntKind) (hs : a.eval s = v) (hx : a.eval x = .int kq k)
    (hown : OwnI w B v xs) (hne : 0 < xs.length) (hB : B ≤ w.heap.size) (hl : xs.length ≤ 1000) (h0 : 0 < k) (hk : k ≤ 1000)
    (h : ∀ v' w', OwnI w' B v' (xs ++ List.replicate k 0) → Upd v.ownBlock.toList w w' → wpList Try.prog ops Q rest (a.put o.dst v') w') :
    wpList Try.prog ops Q (o :: rest) a w := by
  obtain ⟨v', w', hr, h2, h3⟩ := run_app_zeros hown hne hB hl k h0 hk o.type kq
  refine Lib.wpList_append_run w hg s x _ _ hop _ _ hs hx v' w' hr (h v' w' h2 ?_)
  exact ((Upd.refl w).mono (by simp)).grown h3 fun k hk => .inl (by simp [hk])
end
end Go.Proofs.Ytiiljmaianfdeaa
