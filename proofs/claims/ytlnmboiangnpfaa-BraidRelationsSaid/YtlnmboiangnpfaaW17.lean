/- Walks: join. -/
import Derived.Test.YtlnmboiangnpfaaW14
import Derived.Laws.OwnMore
namespace Go.Proofs.Ytlnmboiangnpfaa
open Go.RowKit

theorem ints_app (xs ys : List Int) : ints (xs ++ ys) = ints xs ++ ints ys := by simp [ints]
/- an append of a slice, nil or not -/
theorem run_app_nil {w : World} {base : Nat} {t ty e : TypeId} {i : TypeInfo} (ht : Try.prog.underlying t = some (.slice e)) (hi : Try.prog.info? e = some i) {v : Value} {n : Nat} {xs : List Value} (hown : w.ownsRow base e 1 v n xs) (c : Nat) :
    (Builtin.append_ #[t, t] ty #[v, .slice none 0 c]).run Try.prog w = .ok v w := by
  rcases hown.2 with ⟨rfl, rfl⟩ | ⟨g, cap, cur, rfl, _, _, hnc, _⟩
  · simp [Builtin.append_, run_underlying ht, sizeOf, typeInfo, hi, Builtin.lenOf, Builtin.firstCells]
  · simp [Builtin.append_, run_underlying ht, sizeOf, typeInfo, hi, Builtin.lenOf, Builtin.firstCells, hnc, storeCells]

theorem wpList_app {w : World} {ops : Array Oper} {rest : List Oper} {o : Oper} {a : Act} {Q : Exit → Act → World → Prop} (hgd : o.guard = none) (s x : Operand)
    (ho : o.op = .call { callee := .builtin .append, args := #[s, x], argTypes := #[22, 22] })
    (base : Nat) (v : Value) (xs ys : List Int) (A : Option Addr) (l c : Nat) (hs : a.eval s = v) (hown : Own base w v xs) (hx : a.eval x = .slice A l c) (hl : l = ys.length) (hy : IntsAt w A ys)
    (h1 : xs.length + ys.length ≤ 1000000) (hbase : base ≤ w.heap.size)
    (h : ∀ v' w', Own base w' v' (xs ++ ys) → w.grownBy w' v.ownBlock → wpList Try.prog ops Q rest (a.put o.dst v') w') : wpList Try.prog ops Q (o :: rest) a w := by
  subst hl
  obtain ⟨i0, hi, hz0, hz1, hz2⟩ := info_parts Try.info3
  have own' : ∀ w' v', w'.ownsRow base 3 1 v' (xs.length + ys.length) (ints xs ++ ints ys) → Own base w' v' (xs ++ ys) := by
    intro w' v' h
    unfold Own
    rw [List.length_append, ints_app]
    exact h
  rcases A with _ | ad
  · have hy0 : ys = [] := by
      rcases hy with h | ⟨b, o, e, _⟩
      · exact h
      · cases e
    subst hy0
    refine wpList_plain hgd fun K hK => ?_
    have hrun := run_app_nil (ty := o.type) Try.underlying22 hi hown c
    unfold Oper.wp
    simp only [List.length_nil] at hx
    simp [execOp, ho, resolve, invoke, builtin, hs, hx, hrun, Result.andThen]
    exact hK _ _ (h v w (by rw [List.append_nil]; exact hown) (World.grownBy.refl w _))
  · exact wpList_append_own _ hgd s x 22 ho base 3 i0 (.int .i64 0) 1 8 Try.underlying22 hi hz0 hz1 hz2 rfl (by decide) v xs.length (ints xs) hs hown ad ys.length c (ints ys) hx (by rw [ints_length, Nat.mul_one]) hy.news (ints_one ys) (by unfold maxLen; omega) (by omega) hbase
      fun v' w' h2 h3 _ => h v' w' (own' _ _ h2) h3

set_option maxHeartbeats 1000000 in
theorem join_any (a : Option Addr) (l c : Nat) (T : List (List Int)) (w : World) (hl : l = T.length) (hT : TabR w a T) (h3 : T.length ≤ 100) (hs : T.flatten.length ≤ 1000) :
    Calls Try.prog 9 #[.slice a l c] w (GaveInts T.flatten w) := by
  subst hl
  have HT := Lib.hid hT
  have HS := Lib.hid hs
  clear hT hs
  go_enter Try.func9, Try.ntmps9
  go_wp2
  go_loopw [3, 4] (fun v i wr => ∃ (k : Nat), k ≤ T.length ∧ i = .int .i64 k ∧ Hid (Own w.heap.size wr v (T.take k).flatten) ∧ Hid (New w wr)) (fun _ i _ => T.length - (intOf i).toNat)
  case atStart => exact ⟨0, by omega, rfl, Lib.hid (World.ownsRow_nil _ _ _ _), Lib.hid (Fr.refl _ _)⟩
  case round =>
    obtain ⟨k, hk, rfl, HO, HF⟩ := hrel
    by_cases hlt : k < T.length
    · obtain ⟨g, o, b, c', rfl, d1, hi⟩ := (HT.out.new HF.out).at hlt
      obtain ⟨ys, HY⟩ : ∃ ys, Hid (ys = T.getD k []) := ⟨_, Lib.hid rfl⟩
      obtain ⟨ly, HL⟩ : ∃ ly, Hid (ly = ys.length) := ⟨_, Lib.hid rfl⟩
      rw [← HY.out, ← HL.out] at d1
      have HI : Hid (IntsAt wr b ys) := Lib.hid (by rw [HY.out]; exact hi)
      have HLE : Hid ((T.take k).flatten.length + ys.length ≤ 1000) := Lib.hid (by
        have := flatten_take hlt
        rw [← HY.out] at this
        have h2 := flatten_take_le (ws := T) (k + 1)
        rw [this, List.length_append] at h2
        have := HS.out
        omega)
      clear hi
      go_wp2_with (at_builtin; refine wpList_app rfl _ _ rfl w.heap.size _ (T.take k).flatten ys b ly c' rfl ?d0 rfl ?d1 ?d2 ?d3 ?d4 ?_)
      case d0 => exact HO.out
      case d1 => exact HL.out
      case d2 => exact HI.out
      case d3 => have := HLE.out; omega
      case d4 => exact HF.out.size
      intro v' w1 hown hgrow
      have HN : Hid (New w w1) := Lib.hid (HF.out.grown hgrow fun k e => .inr (World.ownsRow.lt HO.out k e).1)
      have ho : Hid (Own w.heap.size w1 v' (T.take (k + 1)).flatten) := Lib.hid (by rw [flatten_take hlt, ← HY.out]; exact hown)
      clear hown hgrow
      go_wp2
      go_roundw
      case rel => exact ⟨k + 1, by omega, by go_num, ho, HN⟩
      case measure => simp [intOf]; omega
    · have e : (T.take k).flatten = T.flatten := by rw [List.take_of_length_le (by omega)]
      rw [e] at HO
      go_wp2
      go_ret
      obtain ⟨a', c', rfl, h1, h2⟩ := IntsAt.of_owns HO.out
      exact ⟨a', c', rfl, h1, h2, HF.out⟩
end Go.Proofs.Ytlnmboiangnpfaa
