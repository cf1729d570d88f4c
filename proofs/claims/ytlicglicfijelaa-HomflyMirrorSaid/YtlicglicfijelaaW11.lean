/- Words for darts in rows and in a map. -/
import Derived.Maps.Ext
import Derived.DeepKeys4
import Derived.Test.YtlicglicfijelaaW10
namespace Go.Proofs.Ytlicglicfijelaa
open Go.RowKit Go.Shelf

theorem Try.info107 : (Try.prog.info? 107).map (fun i => (i.zero, i.size, i.bytes)) = some (some (.agg #[.int .i64 0, .bool false]), 2, 16) := by kernel_rfl
theorem Try.laidOut : laidOutB Try.prog = true := by kernel_rfl
theorem Try.row107 : (107 : TypeId) < Try.prog.types.size := of_decide_eq_true (by kernel_rfl)
theorem Try.wide34 : (match Try.prog.underlying 107 with | some (.array _ _) | some (.struct _) => true | _ => false) = true := by kernel_rfl
theorem Try.key107 : Try.prog.keyTypeAt 2 107 = true := by kernel_rfl
set_option maxRecDepth 10000 in
theorem Try.law107 : Maps.Keyed Try.prog 107 := Maps.Keyed.of_law (deep_law_laid Try.laidOut (m := 2) (by omega) Try.row107 Try.key107 Try.wide34)
theorem Try.ul125 : Try.prog.underlying 125 = some (.map 107 4) := by kernel_rfl
theorem Try.ul4 : Try.prog.underlying 4 = some .bool := by kernel_rfl
theorem Try.zero4 (w : World) : (zeroValue 4).run Try.prog w = .ok (.bool false) w := by kernel_rfl
abbrev dv (d : Kn.Dt) : Value := .agg #[.int .i64 (d.1 : Nat), .bool d.2]
theorem keys_all : ((List.range 40).all fun a => (keyOf Try.prog 107 (dv (a, true))).isSome && (keyOf Try.prog 107 (dv (a, false))).isSome) = true := by kernel_rfl
theorem key_of (d : Kn.Dt) (h : d.1 < 40) : ∃ l, keyOf Try.prog 107 (dv d) = some l := by
  have := List.all_eq_true.1 keys_all d.1 (List.mem_range.2 h)
  rw [Bool.and_eq_true] at this
  obtain ⟨a, b⟩ := d
  cases b
  · exact Option.isSome_iff_exists.1 this.2
  · exact Option.isSome_iff_exists.1 this.1
theorem dv_inj {d e : Kn.Dt} (h : dv d = dv e) : d = e := by
  obtain ⟨a, b⟩ := d
  obtain ⟨c, f⟩ := e
  simp only [dv, Value.agg.injEq, Array.mk.injEq, List.cons.injEq, Value.int.injEq, true_and, Value.bool.injEq, and_true, Int.ofNat_inj] at h
  rw [h.1, h.2]

/- the map of what has been seen -/
def SeenMap (W : World) (mb : Nat) (seen : List Kn.Dt) : Prop :=
  ∃ D : DataW Unit, W.ownsMap Try.prog 107 (plainElem Try.prog 4) mb seen.length D ∧ Maps.IsMap D ∧ ∀ d : Kn.Dt, ∀ l, keyOf Try.prog 107 (dv d) = some l → D.atKey l (.lit (.bool false)) = .lit (.bool (decide (d ∈ seen)))
theorem SeenMap.made (w : World) : SeenMap (w.alloc (.map #[] 0)) w.heap.size [] := ⟨_, World.ownsMap_made _ _ _ _, Maps.isMap_empty, fun d l _ => by rw [decide_eq_false (by simp)]; rfl⟩
theorem SeenMap.fr {S : Nat → Prop} {W W' : World} {mb : Nat} {seen : List Kn.Dt} (h : SeenMap W mb seen) (hf : Fr S W W') (hs : ¬ S mb) : SeenMap W' mb seen := by
  obtain ⟨D, ⟨es, ck, hb, r⟩, h1, h2⟩ := h
  exact ⟨D, ⟨es, ck, (hf.block mb (Array.getElem?_eq_some_iff.1 hb).1 hs).trans hb, r⟩, h1, h2⟩
theorem SeenMap.look {W : World} {mb : Nat} {seen : List Kn.Dt} (h : SeenMap W mb seen) (d : Kn.Dt) (hd : d.1 < 40) : (Instr.lookup 125 (.map (some mb)) (dv d) false).run Try.prog W = .ok (.bool (decide (d ∈ seen))) W := by
  obtain ⟨D, ho, _, h2⟩ := h
  obtain ⟨l, hl⟩ := key_of d hd
  obtain ⟨v, ps, hrun, hv⟩ := ho.lookup Try.law107 Try.ul125 (Try.zero4 W) (plainElem_bool Try.ul4 false) hl
  rw [h2 d l hl] at hv
  have hv' : v = .bool (decide (d ∈ seen)) := by
    unfold plainElem at hv
    rw [Try.ul4] at hv
    cases v <;> simp at hv
    rw [hv.1]
  rw [hrun, hv']
theorem SeenMap.block {W : World} {mb : Nat} {seen : List Kn.Dt} (h : SeenMap W mb seen) : ∃ es ck, W.heap[mb]? = some (.map es ck) := by
  obtain ⟨D, ⟨es, ck, hb, _⟩, _⟩ := h
  exact ⟨es, ck, hb⟩
theorem SeenMap.put {W' : World} {mb : Nat} {seen : List Kn.Dt} {D : DataW Unit} {d : Kn.Dt} {l : Lit} (h1 : Maps.IsMap D) (h2 : ∀ d : Kn.Dt, ∀ l, keyOf Try.prog 107 (dv d) = some l → D.atKey l (.lit (.bool false)) = .lit (.bool (decide (d ∈ seen))))
    (hl : keyOf Try.prog 107 (dv d) = some l) (ho : W'.ownsMap Try.prog 107 (plainElem Try.prog 4) mb (seen.length + 1) (D.put l (.lit (.bool true)))) : SeenMap W' mb (seen ++ [d]) := by
  refine ⟨_, by rw [List.length_append]; exact ho, h1.put _ _, fun e k hk => ?_⟩
  by_cases c : e = d
  · subst c
    rw [hl] at hk
    cases hk
    rw [Maps.atKey_put_same h1 (Try.law107.key hl)]; simp
  · have hne : k ≠ l := fun x => c (dv_inj (Try.law107.inj (x ▸ hk) hl))
    rw [Maps.atKey_put_other hne, h2 e k hk]; simp [c]
/- rows of darts -/
def dcells (l : List Kn.Dt) : List Value := l.flatMap fun d => [.int .i64 (d.1 : Nat), .bool d.2]
theorem dcells_snoc (l : List Kn.Dt) (d : Kn.Dt) : dcells (l ++ [d]) = dcells l ++ [.int .i64 (d.1 : Nat), .bool d.2] := by simp [dcells]
def OwnD (w : World) (v : Value) (l : List Kn.Dt) : Prop := w.ownsRow 0 107 2 v l.length (dcells l)
theorem own_shape2 {base e sz n : Nat} {w : World} {v : Value} {ys : List Value} (h : w.ownsRow base e sz v n ys) : ∃ a c, v = .slice a n c ∧ n ≤ c := by
  rcases h.2 with ⟨rfl, rfl⟩ | ⟨g, cap, cur, rfl, hb, hg, h1, h2, h3, h4⟩
  · exact ⟨none, 0, rfl, Nat.le_refl _⟩
  · exact ⟨_, cap, rfl, h1⟩
end Go.Proofs.Ytlicglicfijelaa
