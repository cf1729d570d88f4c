/- slices.SortStableFunc at views: by the library's insertion sort. -/
import Derived.Test.YtgjmjbgicfkojaaGreatW20
import Derived.Test.YtgjmjbgicfkojaaGreatMAll
import Derived.Test.YtgjmjbgicfkojaaGreatShelf2
namespace Go.Proofs.YtgjmjbgicfkojaaGreat
open Go.RowKit Go.Sort

/- a row of cells and the library's words for it -/
theorem holds_of_block {w : World} {g : Nat} {cur : Array Value} {e : TypeId} {F : Array Value} (hb : w.heap[g]? = some (.cells cur e (0, 0))) (ht : cur.toList.take F.size = F.toList) : Holds id w g 0 F := by
  intro j hj
  refine ⟨?_, by simp [World.frozen?, hb]⟩
  have h1 : (cur.toList.take F.size)[j]? = F.toList[j]? := by rw [ht]
  rw [List.getElem?_take_of_lt hj] at h1
  simp only [World.cell?, hb, Nat.zero_add]
  simp only [Option.isSome_none, Bool.false_eq_true, if_false]
  rw [← Array.getElem?_toList, h1]
  simp [hj]
theorem heap_sortedK {w : World} {g n : Nat} {os : Array Obj} {cur : Array Value} {e : TypeId} {fr : Nat × Nat} (F : Array Value) (hb : w.heap[g]? = some (.cells cur e fr)) :
    (grow (putRow id (Sort.ahead w n) g 0 F) os).heap[g]? = some (.cells (putCells id 0 F cur) e fr) := by
  have hg : g < w.heap.size := (Array.getElem?_eq_some_iff.1 hb).1
  rw [heap_grow_old _ _ (by simpa using hg)]
  simp [putRow, mapBlock, Sort.ahead, Array.getElem?_modify, hb, onCells]
theorem grownBy_sortedK {w : World} {g n : Nat} {os : Array Obj} (F : Array Value) : w.grownBy (grow (putRow id (Sort.ahead w n) g 0 F) os) (some g) := by
  refine ⟨rfl, rfl, rfl, by simp, fun k hk hne => ?_⟩
  rw [heap_grow_old _ _ (by simpa using hk)]
  have : g ≠ k := fun e => hne (by rw [e])
  simp [putRow, mapBlock, Sort.ahead, Array.getElem?_modify, this]
theorem take_putCellsK (cur : Array Value) (F : Array Value) (h : F.size ≤ cur.size) : (putCells id 0 F cur).toList.take F.size = F.toList := by
  apply List.ext_getElem?
  intro j
  by_cases hj : j < F.size
  · rw [List.getElem?_take_of_lt hj, Array.getElem?_toList]
    simp [putCells, hj, show j < cur.size by omega]
  · rw [List.getElem?_take_eq_none (by omega), List.getElem?_eq_none (by simp; omega)]
theorem flat_get {α : Type} (f : α → List Value) (hf : ∀ x, (f x).length = 2) : ∀ (l : List α) (t : Nat) (h : t / 2 < l.length), (l.flatMap f)[t]? = (f l[t / 2])[t % 2]?
  | [], t, h => by simp at h
  | x :: l, t, h => by
    rw [List.flatMap_cons]
    by_cases c : t < 2
    · rw [List.getElem?_append_left (by rw [hf]; exact c)]
      have e1 : t / 2 = 0 := by omega
      have e2 : t % 2 = t := by omega
      simp [e1, e2]
    · rw [List.getElem?_append_right (by rw [hf]; omega), hf, flat_get f hf l (t - 2) (by simp at h; omega)]
      have e1 : t / 2 = (t - 2) / 2 + 1 := by omega
      have e2 : t % 2 = (t - 2) % 2 := by omega
      simp [e1, e2]
theorem flat_len {α : Type} (f : α → List Value) (hf : ∀ x, (f x).length = 2) : ∀ (l : List α), (l.flatMap f).length = l.length * 2
  | [] => rfl
  | x :: l => by rw [List.flatMap_cons, List.length_append, hf, flat_len f hf l, List.length_cons]; omega
theorem flatK_list {α : Type} [Inhabited α] (f : α → List Value) (hf : ∀ x, (f x).length = 2) (d : Array α) : (flatK f 2 d).toList = d.toList.flatMap f := by
  apply List.ext_getElem?
  intro t
  by_cases c : t < d.size * 2
  · have h2 : t / 2 < d.size := by omega
    rw [flat_get f hf d.toList t (by simpa using h2), Array.getElem?_toList, Array.getElem?_eq_getElem (by simpa using c)]
    have := get_flatK f 2 d t c
    rw [getElem!_pos _ t (by simpa using c), getElem!_pos d _ h2, getElem!_pos _ _ (by rw [hf]; omega)] at this
    rw [this, List.getElem?_eq_getElem (by rw [hf]; omega)]
    simp
  · rw [List.getElem?_eq_none (by simp; omega), List.getElem?_eq_none (by rw [flat_len f hf]; simp; omega)]

abbrev TV := (Value × Value) × Kn.Vw
def vcell (t : TV) : List Value := [t.1.1, t.1.2]
def VwAt (w : World) (t : TV) : Prop := w.ownsRow 0 3 1 t.1.1 t.2.1.length (nums t.2.1) ∧ w.ownsRow 0 3 1 t.1.2 t.2.2.length (ints t.2.2) ∧ t.2.1.length ≤ 1000 ∧ t.2.2.length ≤ 1000
theorem VwAt.kept {w w' : World} {row : Option Nat} {t : TV} (h : VwAt w t) (hg : w.grownBy w' row) (h1 : ∀ k, t.1.1.ownBlock = some k → some k ≠ row) (h2 : ∀ k, t.1.2.ownBlock = some k → some k ≠ row) : VwAt w' t :=
  ⟨owns_kept h.1 hg h1, owns_kept h.2.1 hg h2, h.2.2⟩
theorem swoV (P : TV → Prop) : SWO (ltOf fun x y : {t : TV // P t} => Kn.cmpV x.1.2 y.1.2) where
  irrefl x := by have := Kn.cmpV_anti x.1.2 x.1.2; simp only [ltOf, decide_eq_false_iff_not]; omega
  trans x y z h1 h2 := by
    simp only [ltOf, decide_eq_true_eq] at *
    have a1 := Kn.cmpV_anti x.1.2 y.1.2
    have a2 := Kn.cmpV_anti y.1.2 z.1.2
    have a3 := Kn.cmpV_anti x.1.2 z.1.2
    refine Classical.byContradiction fun c => ?_
    have := Kn.cmpV_trans (a := z.1.2) (b := x.1.2) (c := y.1.2) (by omega) (by omega)
    omega
  ntrans x y z h1 h2 := by
    simp only [ltOf, decide_eq_false_iff_not] at *
    have a1 := Kn.cmpV_anti x.1.2 y.1.2
    have a2 := Kn.cmpV_anti y.1.2 z.1.2
    have a3 := Kn.cmpV_anti x.1.2 z.1.2
    have := Kn.cmpV_trans (a := z.1.2) (b := y.1.2) (c := x.1.2) (by omega) (by omega)
    omega
theorem insert_none (p : Option Addr) (cap : Nat) (fv : Value) (w : World) :
    Calls Tryz.prog 84 #[.slice p 0 cap, .int .i64 0, .int .i64 0, fv] w fun e w' => e = .returned (.tuple #[]) ∧ w' = w := by
  go_enter Tryz.func84, Tryz.ntmps84
  go_wp2
  refine wp_loop_rounds 1 ?_
  rw [rounds_succ]
  go_wp2
  go_end0
  exact ⟨rfl, rfl⟩
set_option maxHeartbeats 2000000 in
theorem insert_own (base : Nat) (v : Value) (ts : List TV) (w : World) (ho : w.ownsRow base 94 2 v ts.length (ts.flatMap vcell)) (hv : ∀ t ∈ ts, VwAt w t) (hl : ts.length ≤ 1000) :
    Calls Tryz.prog 84 #[v, .int .i64 0, .int .i64 ts.length, .func (.func 43) #[] #[]] w fun e w' => e = .returned (.tuple #[]) ∧ ∃ ts' : List TV, ts'.Perm ts ∧ (ts'.map (·.2)).Pairwise (fun a b => Kn.cmpV a b ≤ 0) ∧ w'.ownsRow base 94 2 v ts'.length (ts'.flatMap vcell) ∧ w.grownBy w' v.ownBlock := by
  by_cases hts : ts = []
  · subst hts
    obtain ⟨a, c, rfl, _⟩ := own_shape2 ho
    refine (insert_none a c _ w).mono ?_
    rintro e w' ⟨rfl, rfl⟩
    exact ⟨rfl, [], .refl _, .nil, ho, ⟨rfl, rfl, rfl, Nat.le_refl _, fun _ _ _ => rfl⟩⟩
  obtain ⟨t0, ht0⟩ : ∃ t, t ∈ ts := List.exists_mem_of_ne_nil _ hts
  have hlen : 0 < ts.length := List.length_pos_iff.2 hts
  rcases ho.2 with ⟨_, h0⟩ | ⟨g, cap, cur, rfl, hb, hg, h1, h2, h3, h4⟩
  · omega
  haveI : Inhabited {t : TV // VwAt w t} := ⟨⟨t0, hv t0 ht0⟩⟩
  obtain ⟨L, hL⟩ : ∃ L : List {t : TV // VwAt w t}, L.map Subtype.val = ts := ⟨ts.attachWith (VwAt w) hv, List.attachWith_map_subtype_val _⟩
  let enc : {t : TV // VwAt w t} → List Value := fun t => vcell t.1
  have hk : ∀ x, (enc x).length = 2 := fun _ => rfl
  have hLl : L.length = ts.length := by rw [← hL, List.length_map]
  have hflat : ∀ M : List {t : TV // VwAt w t}, M.flatMap enc = (M.map Subtype.val).flatMap vcell := fun M => by rw [List.flatMap_map]
  have hF : (flatK enc 2 L.toArray).toList = ts.flatMap vcell := by rw [flatK_list enc hk, hflat, List.toList_toArray, hL]
  have hFs : (flatK enc 2 L.toArray).size = ts.length * 2 := by rw [size_flatK]; simp [hLl]
  have hH : HoldsK enc 2 w g 0 L.toArray := holds_of_block hg (by rw [hFs, h4, hF])
  have h1c : ∀ x, ∀ u ∈ enc x, u.oneCell' = true := fun x u hu => by
    obtain ⟨a1, c1, e1, _⟩ := own_shape2 x.2.1
    obtain ⟨a2, c2, e2, _⟩ := own_shape2 x.2.2.1
    have : u ∈ [x.1.1.1, x.1.1.2] := hu
    rw [e1, e2] at this
    simp only [List.mem_cons, List.not_mem_nil, or_false] at this
    rcases this with rfl | rfl <;> rfl
  have eg : ∀ args w, (callFunc 43 args).run Tryz.prog w = .ok (.enter 43 args) w := enters_of Tryz.func43 (by kernel_rfl) rfl
  have hcmp : CmpLays Tryz.prog 43 #[] enc 2 (fun x y => Kn.cmpV x.1.2 y.1.2) g 0 L.toArray.size w := fun m os dk _ x y => by
    have hW : w.grownBy (sortWorldK enc 2 w g 0 m dk os) (some g) := grownBy_sortedK _
    have hne : ∀ {u : Value} {n : Nat} {xs : List Value}, w.ownsRow 0 3 1 u n xs → ∀ k, u.ownBlock = some k → some k ≠ some g := fun hr k hk e => blk_not_own hg hr (by decide) (by rw [hk, e])
    have hx := x.2.kept hW (hne x.2.1) (hne x.2.2.1)
    have hy := y.2.kept hW (hne y.2.1) (hne y.2.2.1)
    exact form1_any _ _ 0 0 x.1.2 y.1.2 _ ⟨_, _, rfl, hx.1, hx.2.1⟩ ⟨_, _, rfl, hy.1, hy.2.1⟩ hx.2.2.1 hx.2.2.2 hy.2.2.1 hy.2.2.2
  have hcon := AnyQ.insertionSortCmpFunc Tryz.layIns 2 Tryz.isAgg94 Tryz.sizeOf94 enc hk h1c (fun x y => Kn.cmpV x.1.2 y.1.2) 43 #[] g 0 cap 0 L.toArray.size L.toArray w eg hcmp hH (Array.getElem?_eq_some_iff.1 hg).1 (Nat.zero_le _) (Nat.le_refl _) (by simp; omega)
  change Calls Tryz.prog 84 _ _ _ at hcon
  rw [List.size_toArray, hLl] at hcon
  refine hcon.mono ?_
  rintro e w' ⟨rfl, n, os, rfl⟩
  obtain ⟨⟨p1, _, p3⟩, p4⟩ := insertionSort_holds (swoV (VwAt w)) L.toArray 0 ts.length (Nat.zero_le _) (by simp; omega)
  have e0 : (Sort.insertionSort (ltOf fun x y : {t : TV // VwAt w t} => Kn.cmpV x.1.2 y.1.2) L.toArray 0 ts.length) = (Sort.insertionSort (ltOf fun x y : {t : TV // VwAt w t} => Kn.cmpV x.1.2 y.1.2) L.toArray 0 ts.length) := rfl
  generalize (Sort.insertionSort (ltOf fun x y : {t : TV // VwAt w t} => Kn.cmpV x.1.2 y.1.2) L.toArray 0 ts.length) = d' at p1 p3 p4 ⊢
  clear e0 hcon
  have hs : d'.size = ts.length := by rw [p1]; simp [hLl]
  have hp : d'.toList.Perm L := by
    rw [Array.extract_eq_self_of_le (by omega), Array.extract_eq_self_of_le (by simp; omega)] at p3
    simpa using p3
  have hps : (d'.toList.map Subtype.val).Perm ts := by rw [← hL]; exact hp.map _
  refine ⟨rfl, d'.toList.map Subtype.val, hps, ?_, ?_, grownBy_sortedK _⟩
  · rw [List.map_map, List.pairwise_map, List.pairwise_iff_getElem]
    intro i j hi hj hij
    have := p4 i j (Nat.zero_le _) hij (by simpa [hs] using hj)
    simp only [ltOf, decide_eq_false_iff_not] at this
    simp only [Array.length_toList] at hi hj
    rw [getElem!_pos d' i hi, getElem!_pos d' j hj] at this
    have h2 := Kn.cmpV_anti (d'[i]).1.2 (d'[j]).1.2
    simp only [Function.comp, Array.getElem_toList]
    omega
  · rw [hps.length_eq]
    have hF' : (flatK enc 2 d').toList = (d'.toList.map Subtype.val).flatMap vcell := by rw [flatK_list enc hk, hflat]
    have hFs' : (flatK enc 2 d').size = ts.length * 2 := by rw [size_flatK, hs]
    refine ⟨by rw [← hF', Array.length_toList, hFs'], .inr ⟨g, cap, _, rfl, hb, heap_sortedK _ hg, h1, h2, by simp [putCells, h3], ?_⟩⟩
    rw [← hFs', take_putCellsK _ _ (by rw [hFs', h3]; omega), hF']
end Go.Proofs.YtgjmjbgicfkojaaGreat
