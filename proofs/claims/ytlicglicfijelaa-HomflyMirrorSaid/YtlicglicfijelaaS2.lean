/- Walks: sameTwos. -/
import Derived.Laws.StructEq
import Derived.BigQuiet
import Derived.Test.YtlicglicfijelaaH2
import Derived.Test.YtlicglicfijelaaN0
import Derived.Test.YtlicglicfijelaaMAllc
/- Walks: sameTwos. -/
namespace Go.Proofs.Ytlicglicfijelaa
open Go.RowKit
open Kn (E2 L2)

theorem t33a : Try.prog.eqGuardType Try.prog.depth 33 = false := by kernel_rfl
theorem t33b : Try.prog.stoodInHeld 33 = false := by kernel_rfl
theorem t33c : Try.prog.underlying 33 = some (.struct (Try.prog.fieldsOf 33)) := by kernel_rfl
theorem t33d : (Try.prog.fieldsOf 33).toList.map (fun f => (f.type, f.name, f.offset)) = [(3, "X", 0), (3, "Z", 1), (3, "Coef", 2)] := by kernel_rfl
theorem hne33 (w : World) (a b c d e f : Int) : (binOp .neq 33 (.agg #[.int .i64 a, .int .i64 b, .int .i64 c]) (.agg #[.int .i64 d, .int .i64 e, .int .i64 f])).run Try.prog w = .ok (.bool (!(a == d && b == e && c == f))) w := by
  rw [run_neq_struct, run_equalIn_agg _ _ _ _ _ t33c t33b]
  have h4 := t33d
  rcases h : (Try.prog.fieldsOf 33).toList with _ | ⟨f1, _ | ⟨f2, _ | ⟨f3, _ | ⟨f4, r⟩⟩⟩⟩ <;> simp [h] at h4
  obtain ⟨⟨t1, n1, o1⟩, ⟨t2, n2, o2⟩, t3, n3, o3⟩ := h4
  have hu := Try.underlying3
  obtain ⟨i0, hi0, hz1, hz2⟩ := info_parts Try.info3
  cases had : a == d <;> simp [go_sem, Op.eqFields, n1, n2, n3, t1, t2, t3, o1, o2, o3, part, sizeOf, typeInfo, hi0, hz1, run_equalIn_int _ _ _ .i64 .i64 _ _ hu, had]
  by_cases hbe : b = e <;> by_cases hcf : c = f <;> simp [hbe, hcf]
abbrev tmG (l : L2) (k : Nat) : E2 × Int := l.getD k ((0, 0), 0)
/- terms in memory: three cells each -/
def T2At (w : World) (a : Option Addr) (l : L2) : Prop :=
  l = [] ∨ ∃ b o, a = some ⟨b, o, none⟩ ∧ ∀ i, i < l.length → w.cell? ⟨b, o + i * 3, none⟩ = some (.int .i64 (tmG l i).1.1) ∧ w.cell? ⟨b, o + i * 3 + 1, none⟩ = some (.int .i64 (tmG l i).1.2) ∧ w.cell? ⟨b, o + i * 3 + 2, none⟩ = some (.int .i64 (tmG l i).2)
theorem T2At.at {w : World} {a : Option Addr} {l : L2} (h : T2At w a l) {k : Nat} (hk : k < l.length) :
    ∃ b o, a = some ⟨b, o, none⟩ ∧ w.cell? ⟨b, o + k * 3, none⟩ = some (.int .i64 (tmG l k).1.1) ∧ w.cell? ⟨b, o + k * 3 + 1, none⟩ = some (.int .i64 (tmG l k).1.2) ∧ w.cell? ⟨b, o + k * 3 + 2, none⟩ = some (.int .i64 (tmG l k).2) := by
  rcases h with rfl | ⟨b, o, rfl, h⟩
  · simp at hk
  · exact ⟨b, o, rfl, h k hk⟩
theorem New.t2 {w w' : World} (h : New w w') {a : Option Addr} {l : L2} (ht : T2At w a l) : T2At w' a l := by
  rcases ht with rfl | ⟨b, o, rfl, hc⟩
  · exact .inl rfl
  · exact .inr ⟨b, o, rfl, fun i hi => ⟨h.cell (hc i hi).1 (fun x => x), h.cell (hc i hi).2.1 (fun x => x), h.cell (hc i hi).2.2 (fun x => x)⟩⟩
theorem tm_ext {x y : L2} (hl : x.length = y.length) (h : ∀ j, j < x.length → tmG x j = tmG y j) : x = y := by
  refine List.ext_getElem hl fun i h1 h2 => ?_
  have := h i h1
  simpa [List.getD_eq_getElem?_getD, h1, h2] using this
set_option maxRecDepth 100000 in
set_option maxHeartbeats 1000000 in
theorem sametwos_any (a a' : Option Addr) (n n' c c' : Nat) (x y : L2) (w : World) (hx : T2At w a x) (hy : T2At w a' y) (hn : n = x.length) (hn' : n' = y.length) (lx : n ≤ 1000000) (ly : n' ≤ 1000000) :
    Calls Try.prog 8 #[.slice a n c, .slice a' n' c'] w fun e w' => e = .returned (.bool (decide (x = y))) ∧ New w w' := by
  have HX := Lib.hid hx
  have HY := Lib.hid hy
  have HL := Lib.hid hn
  have HL' := Lib.hid hn'
  clear hx hy hn hn'
  have q1' := t33a
  have hu := Try.underlying3
  by_cases h : n = n'
  · subst h
    go_enter Try.func8, Try.ntmps8
    go_wp2
    go_loopw [5] (fun i wr => ∃ k : Nat, k ≤ n ∧ i = .int .i64 k ∧ Hid (New w wr) ∧ Hid (∀ j, j < k → tmG x j = tmG y j)) (fun i _ => n - (intOf i).toNat)
    case atStart => exact ⟨0, by omega, rfl, Lib.hid (Fr.refl _ _), Lib.hid fun j hj => by omega⟩
    case round =>
      obtain ⟨k, hk, rfl, HF, HE⟩ := hrel
      by_cases hlt : k < n
      · obtain ⟨b, o, rfl, d1, d2, d3⟩ := (New.t2 HF.out HX.out).at (k := k) (by have := HL.out; omega)
        obtain ⟨b', o', rfl, d4, d5, d6⟩ := (New.t2 HF.out HY.out).at (k := k) (by have := HL'.out; omega)
        obtain ⟨e1, H1⟩ : ∃ e, Hid (e = (tmG x k).1.1) := ⟨_, Lib.hid rfl⟩
        obtain ⟨e2, H2⟩ : ∃ e, Hid (e = (tmG x k).1.2) := ⟨_, Lib.hid rfl⟩
        obtain ⟨e3, H3⟩ : ∃ e, Hid (e = (tmG x k).2) := ⟨_, Lib.hid rfl⟩
        obtain ⟨e4, H4⟩ : ∃ e, Hid (e = (tmG y k).1.1) := ⟨_, Lib.hid rfl⟩
        obtain ⟨e5, H5⟩ : ∃ e, Hid (e = (tmG y k).1.2) := ⟨_, Lib.hid rfl⟩
        obtain ⟨e6, H6⟩ : ∃ e, Hid (e = (tmG y k).2) := ⟨_, Lib.hid rfl⟩
        rw [← H1.out] at d1
        rw [← H2.out] at d2
        rw [← H3.out] at d3
        rw [← H4.out] at d4
        rw [← H5.out] at d5
        rw [← H6.out] at d6
        have i1 : (0 : Int) ≤ (k : Int) := by omega
        have i2 : (k : Int) < (n : Int) := by omega
        by_cases hq : e1 = e4 ∧ e2 = e5 ∧ e3 = e6
        · have hn : ∀ w, (binOp .neq 33 (.agg #[.int .i64 e1, .int .i64 e2, .int .i64 e3]) (.agg #[.int .i64 e4, .int .i64 e5, .int .i64 e6])).run Try.prog w = .ok (.bool false) w := fun w => by rw [hne33]; simp [hq.1, hq.2.1, hq.2.2]
          have HQ := Lib.hid hq
          clear hq
          go_wp2
          go_quiet (fail)
          go_wp2
          go_roundw
          case rel =>
            refine ⟨k + 1, by omega, by go_num, Lib.hid (HF.out.drewN _), Lib.hid fun j hj => ?_⟩
            by_cases e : j = k
            · subst e
              obtain ⟨g1, g2, g3⟩ := HQ.out
              exact Prod.ext (Prod.ext (by rw [← H1.out, ← H4.out, g1]) (by rw [← H2.out, ← H5.out, g2])) (by rw [← H3.out, ← H6.out, g3])
            · exact HE.out j (by omega)
          case measure => simp [intOf]; omega
        · have hn : ∀ w, (binOp .neq 33 (.agg #[.int .i64 e1, .int .i64 e2, .int .i64 e3]) (.agg #[.int .i64 e4, .int .i64 e5, .int .i64 e6])).run Try.prog w = .ok (.bool true) w := fun w => by
            rw [hne33]
            have : (e1 == e4 && e2 == e5 && e3 == e6) = false := by
              rw [Bool.eq_false_iff]; intro x; simp at x; exact hq ⟨x.1.1, x.1.2, x.2⟩
            rw [this]; rfl
          have HQ : Hid (x ≠ y) := Lib.hid fun e => hq ⟨by rw [H1.out, H4.out, e], by rw [H2.out, H5.out, e], by rw [H3.out, H6.out, e]⟩
          clear hq
          go_wp2
          go_quiet (fail)
          go_wp2
          go_ret
          exact ⟨ret_bool (decide_eq_false HQ.out).symm, HF.out.drewN _⟩
      · obtain rfl : k = n := by omega
        have HQ : Hid (x = y) := Lib.hid (tm_ext (by rw [← HL.out, HL'.out]) fun j hj => HE.out j (by rw [HL.out]; exact hj))
        go_wp2
        go_ret
        exact ⟨ret_bool (decide_eq_true HQ.out).symm, HF.out⟩
  · have HQ : Hid (x ≠ y) := Lib.hid fun e => h (by rw [HL.out, HL'.out, e])
    have hb : ¬ (n : Int) = (n' : Int) := by omega
    go_enter Try.func8, Try.ntmps8
    go_wp2
    go_ret
    exact ⟨ret_bool (decide_eq_false HQ.out).symm, Fr.refl _ _⟩
end Go.Proofs.Ytlicglicfijelaa

/- Words for sumTwo: where a term goes. -/
namespace Go.Proofs.Ytlicglicfijelaa
open Go.RowKit
open Kn (E2 L2 lt2 insT)

theorem tm_at {l : L2} {k : Nat} (hk : k < l.length) : tmG l k = l[k] := by unfold tmG; rw [List.getD_eq_getElem?_getD, List.getElem?_eq_getElem hk]; rfl
def ins2 : L2 → E2 × Int → L2
  | [], t => if t.2 ≠ 0 then [t] else []
  | o :: os, t => if o.1 = t.1 then (if t.2 + o.2 ≠ 0 then (t.1, t.2 + o.2) :: os else os) else if t.2 ≠ 0 then t :: o :: os else o :: os
theorem insT_at : ∀ (l : L2) (t : E2 × Int) (k : Nat), k ≤ l.length → (∀ j, j < k → lt2 (tmG l j).1 t.1) → (k < l.length → ¬ lt2 (tmG l k).1 t.1) → insT l t = l.take k ++ ins2 (l.drop k) t
  | [], t, k, h, _, _ => by
    obtain rfl : k = 0 := by simpa using h
    rfl
  | o :: os, t, 0, _, _, h => by
    have h1 : ¬ lt2 o.1 t.1 := h (by simp)
    rw [List.take_zero, List.nil_append, List.drop_zero, insT, if_neg h1]; rfl
  | o :: os, t, k + 1, h, h1, h2 => by
    have h3 : lt2 o.1 t.1 := h1 0 (by omega)
    rw [insT, if_pos h3, List.take_succ_cons, List.drop_succ_cons, List.cons_append, insT_at os t k (by simpa using h) (fun j hj => h1 (j + 1) (by omega)) fun hk => h2 (by simpa using hk)]
theorem ins2_eq {l : L2} {t : E2 × Int} {k : Nat} (hk : k < l.length) (e : (tmG l k).1 = t.1) : ins2 (l.drop k) t = (if t.2 + (tmG l k).2 ≠ 0 then [(t.1, t.2 + (tmG l k).2)] else []) ++ l.drop (k + 1) := by
  rw [tm_at hk] at e ⊢
  rw [List.drop_eq_getElem_cons hk, ins2, if_pos e]
  split <;> rfl
theorem ins2_ne {l : L2} {t : E2 × Int} {k : Nat} (h : k < l.length → (tmG l k).1 ≠ t.1) : ins2 (l.drop k) t = (if t.2 ≠ 0 then [t] else []) ++ l.drop k := by
  by_cases hk : k < l.length
  · have e := h hk
    rw [tm_at hk] at e
    rw [List.drop_eq_getElem_cons hk, ins2, if_neg e]
    split <;> rfl
  · rw [List.drop_eq_nil_of_le (by omega), ins2]
    split <;> rfl
theorem sumT_snoc (l more : L2) (t : E2 × Int) (d : E2) (c : Int) : Kn.sumT l (more ++ [t]) d c = insT (Kn.sumT l more d c) (t.1 + d, t.2 * c) := by
  unfold Kn.sumT; rw [List.foldl_append]; rfl
theorem insT_len (t : E2 × Int) : ∀ l : L2, (insT l t).length ≤ l.length + 1
  | [] => by unfold insT; split <;> simp
  | o :: os => by
    unfold insT
    have := insT_len t os
    split
    · simp only [List.length_cons]; omega
    · split
      · split <;> simp <;> omega
      · split <;> simp <;> omega
theorem sumT_len (d : E2) (c : Int) : ∀ (more l : L2), (Kn.sumT l more d c).length ≤ l.length + more.length
  | [], l => by show l.length ≤ _; simp
  | t :: more, l => by
    rw [Kn.sumT_cons]
    have h1 := sumT_len d c more (insT l (t.1 + d, t.2 * c))
    have h2 := insT_len (t.1 + d, t.2 * c) l
    simp only [List.length_cons]; omega
/- how great the numbers are -/
theorem insT_sz (t : E2 × Int) : ∀ l : L2, Kn.szL (insT l t) ≤ Kn.szL l + t.2.natAbs
  | [] => by
    unfold insT; split
    · rw [Kn.szL_cons]; omega
    · exact Nat.zero_le _
  | o :: os => by
    unfold insT
    have := insT_sz t os
    split
    · rw [Kn.szL_cons, Kn.szL_cons]; omega
    · split
      · split
        · rw [Kn.szL_cons, Kn.szL_cons]; simp only; omega
        · rw [Kn.szL_cons]; omega
      · split
        · rw [Kn.szL_cons]; omega
        · omega
theorem sumT_sz (d : E2) (c : Int) : ∀ (more l : L2), Kn.szL (Kn.sumT l more d c) ≤ Kn.szL l + c.natAbs * Kn.szL more
  | [], l => by show Kn.szL l ≤ _; omega
  | t :: more, l => by
    rw [Kn.sumT_cons, Kn.szL_cons, Nat.mul_add]
    have h1 := sumT_sz d c more (insT l (t.1 + d, t.2 * c))
    have h2 := insT_sz (t.1 + d, t.2 * c) l
    simp only [Int.natAbs_mul] at h2
    rw [Nat.mul_comm t.2.natAbs] at h2
    omega
end Go.Proofs.Ytlicglicfijelaa
