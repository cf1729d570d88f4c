/- Walks: slices.AppendSeq of powers. -/
import Derived.Test.YtlicglicfijelaaK1
import Derived.Test.YtlicglicfijelaaW12
namespace Go.Proofs.Ytlicglicfijelaa
open Go.RowKit Go.Shelf
open Kn (E2 L2 cf)
attribute [local go_sem] Oper.semAt_some

theorem Try.info51 : (Try.prog.info? 51).map (fun i => (i.zero, i.size, i.bytes)) = some (some (.agg #[.int .i64 0, .int .i64 0]), 2, 16) := by kernel_rfl
theorem cells_not_walk {o : Obj} (h : o.isCells = true) : o.isWalk = false := by
  cases o <;> first | rfl | (simp [Obj.isCells] at h)
/- a row of powers -/
def pcells (l : List E2) : List Value := l.flatMap fun p => [.int .i64 p.1, .int .i64 p.2]
theorem pcells_snoc (l : List E2) (p : E2) : pcells (l ++ [p]) = pcells l ++ [.int .i64 p.1, .int .i64 p.2] := by simp [pcells]
theorem one_pow (x y : Int) : ∀ u ∈ [Value.int .i64 x, .int .i64 y], u.oneCell' = true := by
  intro u hu
  simp only [List.mem_cons, List.not_mem_nil, or_false] at hu
  rcases hu with rfl | rfl <;> rfl
structure ApI (w : World) (pre : List E2) (W : World) : Prop where
  new : New w W
  box : ∃ v, W.heap[w.heap.size]? = some (.cells #[v] 48 (0, 0)) ∧ W.ownsRow w.heap.size 51 2 v pre.length (pcells pre)
theorem ApI.kept {w : World} {pre : List E2} {W W' : World} {row : Option Nat} (h : ApI w pre W) (hg : W.grownBy W' row) (hr : ∀ r, row = some r → w.heap.size + 1 ≤ r ∧ ∃ o : Obj, W.heap[r]? = some o ∧ o.isCells = false) : ApI w pre W' := by
  have hF := fr_grown hg
  have hcell : ∀ {k : Nat} {o : Obj}, W.heap[k]? = some o → o.isCells = true → ¬ row = some k := fun {k o} ho hc e => by
    obtain ⟨_, o', ho', hc'⟩ := hr k e
    rw [ho] at ho'; cases ho'
    rw [hc] at hc'; cases hc'
  obtain ⟨v, hv, ho⟩ := h.box
  exact ⟨h.new.next hF fun k e => .inr (by have := (hr k e).1; omega), v, (hF.block _ (Array.getElem?_eq_some_iff.1 hv).1 (hcell hv rfl)).trans hv, hF.owns ho fun k hk => by
    obtain ⟨o, h1, h2⟩ := own_cells ho k hk
    exact hcell h1 h2⟩
theorem ownsMap_below {w W : World} {b m : Nat} {D : DataW Unit} (h : w.ownsMap Try.prog 51 (plainElem Try.prog 3) b m D) (hW : Below w.heap.size w W) : W.ownsMap Try.prog 51 (plainElem Try.prog 3) b m D := by
  have hbl := h.lt
  obtain ⟨es, clock, hb, Ft, hs, hD⟩ := h
  exact ⟨es, clock, (hW.block b hbl).trans hb, Ft, hs, hD⟩
set_option maxRecDepth 100000 in
set_option maxHeartbeats 4000000 in
theorem appendseq_in (Bm b m : Nat) (D : DataW Unit) (L : L2) (w : World) (hB : Bm < w.heap.size) (hm : w.cell? ⟨Bm, 0, none⟩ = some (.map (some b))) (hown : w.ownsMap Try.prog 51 (plainElem Try.prog 3) b m D) (hd : PD D L) (hp : ∀ t ∈ L, isPw t.1) (hsz : Maps.size D ≤ 1000000000) :
    CallsIn Fence.wide 8 Try.prog 45 #[.slice none 0 0, .func (.func 33) #[] #[.pointer (some ⟨Bm, 0, none⟩)]] w fun e w' => ∃ v xs, e = .returned v ∧ KeyS L xs ∧ w'.ownsRow w.heap.size 51 2 v xs.length (pcells xs) ∧ New w w' := by
  have HOW := Lib.hid hown
  have HD := Lib.hid hd
  have HP := Lib.hid hp
  clear hown hd hp
  refine callsIn_of_wp_marks Try.func45 rfl trivial ?_ rfl
  simp only [Try.ntmps45, List.size_toArray, List.length_cons, List.length_nil, Nat.reduceAdd, Nat.reduceSub, Array.replicate_succ, Array.replicate_zero, List.push_toArray, List.append_toArray, List.nil_append, List.cons_append]
  gi_wp2
  obtain ⟨W0, hW0⟩ : ∃ W0, w.alloc (.cells #[.slice none 0 0] 48) = W0 := ⟨_, rfl⟩
  have hs0 : W0.heap.size = w.heap.size + 1 := by rw [← hW0]; simp
  have hb0 : New w W0 := by rw [← hW0]; exact (Fr.refl _ _).alloc _
  have h0 : ApI w [] W0 := ⟨hb0, _, by rw [← hW0]; exact heap_alloc_new w _, ⟨rfl, .inl ⟨rfl, rfl⟩⟩⟩
  rw [hW0]
  have hm0 := hb0.cell hm fun x => x
  have hown0 : W0.ownsMap Try.prog 51 (plainElem Try.prog 3) b m D := by rw [← hW0]; exact HOW.out.alloc _
  refine wpIn_rangeFunc_ownH rfl (by omega) (gf := 33) (lb := #[.pointer (some ⟨Bm, 0, none⟩)]) rfl trivial (enters_of Try.func33 (by kernel_rfl) rfl)
    (encs := fun x : E2 => #[pV x]) (Kp := KeepsWalks) (S := KeyS L) (Sp := fun _ => True) (N := Maps.size D) (w0 := W0)
    (fun l J Jx W hW hJ _ hY h0 => keys1_in 7 l Bm b m D L J Jx hY W hJ ((hW.cell (p := ⟨Bm, 0, none⟩) (by show Bm < _; omega)).trans hm0) (ownsMap_below hown0 hW) HD.out HP.out h0)
    (fun h k => h.trans k) (fun W l o o' _ h _ hw => KeepsWalks.putObj _ h hw) (Below.refl _ _) (fun _ => rfl)
    (ApI w) (fun _ _ _ => False) (fun _ _ _ _ hs hg hr => hs.kept hg fun r e => ⟨by have := (hr r e).1; omega, (hr r e).2⟩) (fun _ _ _ _ _ hs _ _ => hs) h0
    (fun x a' W => ∃ Bx, w.heap.size + 1 ≤ Bx ∧ W.heap[Bx]? = some (.cells #[.int .i64 x.1, .int .i64 x.2] 51 (0, 0)) ∧ a' = { tmps := #[.slice none 0 0, .func (.func 33) #[] #[.pointer (some ⟨Bm, 0, none⟩)], .pointer (some ⟨w.heap.size, 0, none⟩), undef, .slice none 0 0, .pointer (some ⟨Bx, 0, none⟩), .func (.func 33) #[] #[.pointer (some ⟨Bm, 0, none⟩)], pV x, undef, undef, undef, undef, undef], defers := [] })
    ?hax ?assign ?body ?done ?stop
  case hax =>
    rintro x a' _ A B row ⟨Bx, h1, h2, h3⟩ hg hr
    refine ⟨Bx, h1, ((fr_grown hg).block _ (Array.getElem?_eq_some_iff.1 h2).1 fun e => ?_).trans h2, h3⟩
    obtain ⟨_, o, ho, hc⟩ := hr Bx e
    rw [show A.heap[Bx]? = _ from h2] at ho
    cases ho; cases hc
  case assign =>
    intro l pre x W K hI hK
    gi_wp2
    refine hK _ _ ((KeepsOthers.alloc _ _).from _) (KeepsWalks.alloc _ _) ?_ ⟨W.heap.size, ?_, heap_alloc_new _ _, rfl⟩
    · exact hI.kept (World.grownBy_alloc _ _ none) fun r e => by cases e
    · obtain ⟨v, hv, _⟩ := hI.box
      have := (Array.getElem?_eq_some_iff.1 hv).1
      omega
  case done =>
    rintro Dd ys W hD hy hI hK
    have hI2 := hI.kept (grownBy_putObj' W Dd (.deferred none)) fun r e => by cases e; exact ⟨by omega, _, hK, rfl⟩
    obtain ⟨v, hv, hrow⟩ := hI.box
    obtain ⟨v2, hv2, hrow2⟩ := hI2.box
    have hvv : v2 = v := by
      have e1 := (box_c hv2).1
      have e2 := cell_kept (box_c hv).1 (grownBy_putObj' W Dd (.deferred none)) fun r e => by cases e; exact ⟨_, hK, rfl⟩
      rw [e1] at e2
      exact Option.some.inj e2
    subst hvv
    have hc4 : W.cell? ⟨w.heap.size, 0, none⟩ = some v2 := (box_c hv).1
    have HR2 := Lib.hid hrow2
    have HI2 := Lib.hid hI2.new
    have HDD := Lib.hid hK
    have HY := Lib.hid hy
    clear hrow hrow2 hI2 hK hy hI hv hv2
    gi_wp2
    refine ⟨by simp, .inl ⟨_, _, rfl, run_takeDeferred HDD.out, ?_⟩⟩
    exact ⟨_, results_tmp rfl _ _ _, v2, ys, rfl, HY.out, HR2.out, HI2.out⟩
  case stop =>
    rintro Dd c pre W _ _ h _
    exact h.elim
  case body =>
    rintro l pre ⟨m1, m2⟩ a' W hl2 ⟨r, hr⟩ hI ⟨Bx, hBx, hD, rfl⟩ hlt
    obtain ⟨v, hv, hrow⟩ := hI.box
    obtain ⟨a3, c3, rfl, _⟩ := own_shape2 hrow
    obtain ⟨d1, d2, _, _⟩ := box2_c hD
    obtain ⟨v1, v2⟩ := box_c hv
    obtain ⟨pl, HPL⟩ : ∃ z, Hid (z = pre.length) := ⟨_, Lib.hid rfl⟩
    rw [← HPL.out] at hrow v1 hv hlt
    have hpl : pl ≤ 1000000000 := by omega
    have HROW := Lib.hid hrow
    have HI := Lib.hid hI
    obtain ⟨i0, hi, hz0, hz1, hz2⟩ := info_parts Try.info51
    have HV := Lib.hid hv
    have HDX := Lib.hid hD
    have hsl : pl + 1 ≤ maxLen := by unfold maxLen; omega
    have hby : (pl + 1) * 16 ≤ 140737488355328 := by omega
    have hbs : w.heap.size ≤ W.heap.size := HI.out.new.size
    clear hr hl2 hI hrow hv hD hm hm0 hown0 h0
    gi_wp2_with (gi_at_builtin; refine wpListIn_append_own _ rfl _ _ 48 rfl w.heap.size 51 i0 _ 2 16 Try.underlying48 hi hz0 hz1 hz2 rfl (by decide) _ pl (pcells pre) rfl (World.ownsRow.alloc HROW.out _) ⟨W.heap.size, 0, none⟩ 1 1 [.int .i64 m1, .int .i64 m2] rfl rfl (cell_two rfl) (one_pow _ _) (by exact hsl) (by exact hby) (by simp; omega) ?_; intro v' w7 hown7 hgrow7 _; obtain ⟨a9, c9, rfl, _⟩ := own_shape2 hown7; have hF7 : Fr (fun k => (Value.slice a3 pl c3).ownBlock = some k) W w7 := (((Fr.refl _ W).alloc _).grown hgrow7 fun k e => .inl e); have hb7 := hF7.blk HV.out (blk_not_own HV.out HROW.out (by decide)); obtain ⟨y1, y2⟩ := box_c hb7; have HF7 := Lib.hid hF7; have HB7 := Lib.hid hb7; have HO7 := Lib.hid hown7; have HG7 := Lib.hid hgrow7; clear hF7 hb7 hown7 hgrow7)
    have hS : Fr (fun k => k = w.heap.size) w7 (w7.setCell ⟨w.heap.size, 0, none⟩ (.slice a9 (pl + 1) c9)) := (Fr.refl (fun k => k = w.heap.size) w7).setCell (.inl rfl) _
    refine ⟨(KeepsFrom.app HROW.out HG7.out).trans ((KeepsOthers.setCell _ _ _).from _), ((KeepsWalks.alloc _ _).trans (KeepsWalks.of_grownBy HG7.out fun j o ej hj => ?_)).trans (KeepsWalks.setCell _ _ _), ⟨(HI.out.new.next HF7.out fun k e => .inr (own_lb HROW.out k e)).next hS fun k e => .inr (by rw [e]; exact Nat.le_refl _), _, box_set HB7.out, ?_⟩⟩
    · obtain ⟨u, hu, hc⟩ := own_cells (World.ownsRow.alloc HROW.out _) j ej
      rw [hu] at hj
      obtain rfl := Option.some.inj hj
      exact cells_not_walk hc
    · have := hS.owns HO7.out fun k hk e => blk_not_own HB7.out HO7.out (by decide) (by rw [← e]; exact hk)
      rw [pcells_snoc, List.length_append, List.length_singleton, ← HPL.out]
      exact this
end Go.Proofs.Ytlicglicfijelaa
