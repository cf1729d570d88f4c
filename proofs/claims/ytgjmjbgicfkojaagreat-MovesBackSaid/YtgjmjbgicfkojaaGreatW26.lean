/- slices.SortStableFunc at views: by the library's insertion sort. -/
import Derived.Test.YtgjmjbgicfkojaaGreatW20
import Derived.Test.YtgjmjbgicfkojaaGreatMAll
import Derived.Test.YtgjmjbgicfkojaaGreatShelf2
/- slices.SortStableFunc at views: by the library's insertion sort. -/
namespace Go.Proofs.YtgjmjbgicfkojaaGreat
open Go.RowKit Go.Sort

theorem holds_of_block {w : World} {g : Nat} {cur : Array Value} {e : TypeId} {F : Array Value} (hb : w.heap[g]? = some (.cells cur e (0, 0))) (ht : cur.toList.take F.size = F.toList) : Holds id w g 0 F := by
  intro j hj
  refine ⟨?_, by simp [World.frozen?, hb]⟩
  have h1 : (cur.toList.take F.size)[j]? = F.toList[j]? := by rw [ht]
  rw [List.getElem?_take_of_lt hj] at h1; simp only [World.cell?, hb, Nat.zero_add]; simp only [Option.isSome_none, Bool.false_eq_true, if_false]; rw [← Array.getElem?_toList, h1]
  simp [hj]
theorem heap_sortedK {w : World} {g n : Nat} {os : Array Obj} {cur : Array Value} {e : TypeId} {fr : Nat × Nat} (F : Array Value) (hb : w.heap[g]? = some (.cells cur e fr)) :
    (grow (putRow id (Sort.ahead w n) g 0 F) os).heap[g]? = some (.cells (putCells id 0 F cur) e fr) := by
  have hg : g < w.heap.size := (Array.getElem?_eq_some_iff.1 hb).1; rw [heap_grow_old _ _ (by simpa using hg)]
  simp [putRow, mapBlock, Sort.ahead, Array.getElem?_modify, hb, onCells]
theorem grownBy_sortedK {w : World} {g n : Nat} {os : Array Obj} (F : Array Value) : w.grownBy (grow (putRow id (Sort.ahead w n) g 0 F) os) (some g) := by
  refine ⟨rfl, rfl, rfl, by simp, fun k hk hne => ?_⟩
  rw [heap_grow_old _ _ (by simpa using hk)]
  have : g ≠ k := fun e => hne (by rw [e])
  simp [putRow, mapBlock, Sort.ahead, Array.getElem?_modify, this]
theorem take_putCellsK (cur : Array Value) (F : Array Value) (h : F.size ≤ cur.size) : (putCells id 0 F cur).toList.take F.size = F.toList := by
  apply List.ext_getElem?
  intro j
  by_cases hj : j < F.size
  · rw [List.getElem?_take_of_lt hj, Array.getElem?_toList]
    simp [putCells, hj, show j < cur.size by omega]
  · rw [List.getElem?_take_eq_none (by omega), List.getElem?_eq_none (by simp; omega)]
theorem flat_get {α : Type} (f : α → List Value) (hf : ∀ x, (f x).length = 2) : ∀ (l : List α) (t : Nat) (h : t / 2 < l.length), (l.flatMap f)[t]? = (f l[t / 2])[t % 2]?
  | [], t, h => by simp at h
  | x :: l, t, h => by
    rw [List.flatMap_cons]
    by_cases c : t < 2
    · rw [List.getElem?_append_left (by rw [hf]; exact c)]
      have e1 : t / 2 = 0 := by omega
      have e2 : t % 2 = t := by omega
      simp [e1, e2]
    · rw [List.getElem?_append_right (by rw [hf]; omega), hf, flat_get f hf l (t - 2) (by simp at h; omega)]
      have e1 : t / 2 = (t - 2) / 2 + 1 := by omega
      have e2 : t % 2 = (t - 2) % 2 := by omega
      simp [e1, e2]
theorem flat_len {α : Type} (f : α → List Value) (hf : ∀ x, (f x).length = 2) : ∀ (l : List α), (l.flatMap f).length = l.length * 2
  | [] => rfl
  | x :: l => by rw [List.flatMap_cons, List.length_append, hf, flat_len f hf l, List.length_cons]; omega
theorem flatK_list {α : Type} [Inhabited α] (f : α → List Value) (hf : ∀ x, (f x).length = 2) (d : Array α) : (flatK f 2 d).toList = d.toList.flatMap f := by
  apply List.ext_getElem?
  intro t
  by_cases c : t < d.size * 2
  · have h2 : t / 2 < d.size := by omega
    rw [flat_get f hf d.toList t (by simpa using h2), Array.getElem?_toList, Array.getElem?_eq_getElem (by simpa using c)]; have := get_flatK f 2 d t c; rw [getElem!_pos _ t (by simpa using c), getElem!_pos d _ h2, getElem!_pos _ _ (by rw [hf]; omega)] at this; rw [this, List.getElem?_eq_getElem (by rw [hf]; omega)]
    simp
  · rw [List.getElem?_eq_none (by simp; omega), List.getElem?_eq_none (by rw [flat_len f hf]; simp; omega)]

abbrev TV := (Value × Value) × Kn.Vw
def vcell (t : TV) : List Value := [t.1.1, t.1.2]
def VwAt (w : World) (t : TV) : Prop := w.ownsRow 0 3 1 t.1.1 t.2.1.length (nums t.2.1) ∧ w.ownsRow 0 3 1 t.1.2 t.2.2.length (ints t.2.2) ∧ t.2.1.length ≤ 1000 ∧ t.2.2.length ≤ 1000
theorem VwAt.kept {w w' : World} {row : Option Nat} {t : TV} (h : VwAt w t) (hg : w.grownBy w' row) (h1 : ∀ k, t.1.1.ownBlock = some k → some k ≠ row) (h2 : ∀ k, t.1.2.ownBlock = some k → some k ≠ row) : VwAt w' t :=
  ⟨owns_kept h.1 hg h1, owns_kept h.2.1 hg h2, h.2.2⟩
theorem swoV (P : TV → Prop) : SWO (ltOf fun x y : {t : TV // P t} => Kn.cmpV x.1.2 y.1.2) where
  irrefl x := by have := Kn.cmpV_anti x.1.2 x.1.2; simp only [ltOf, decide_eq_false_iff_not]; omega
  trans x y z h1 h2 := by
    simp only [ltOf, decide_eq_true_eq] at *; have a1 := Kn.cmpV_anti x.1.2 y.1.2; have a2 := Kn.cmpV_anti y.1.2 z.1.2; have a3 := Kn.cmpV_anti x.1.2 z.1.2
    refine Classical.byContradiction fun c => ?_
    have := Kn.cmpV_trans (a := z.1.2) (b := x.1.2) (c := y.1.2) (by omega) (by omega)
    omega
  ntrans x y z h1 h2 := by
    simp only [ltOf, decide_eq_false_iff_not] at *; have a1 := Kn.cmpV_anti x.1.2 y.1.2; have a2 := Kn.cmpV_anti y.1.2 z.1.2; have a3 := Kn.cmpV_anti x.1.2 z.1.2; have := Kn.cmpV_trans (a := z.1.2) (b := y.1.2) (c := x.1.2) (by omega) (by omega)
    omega
theorem insert_none (p : Option Addr) (cap : Nat) (fv : Value) (w : World) :
    Calls Tryz.prog 84 #[.slice p 0 cap, .int .i64 0, .int .i64 0, fv] w fun e w' => e = .returned (.tuple #[]) ∧ w' = w := by
  go_enter Tryz.func84, Tryz.ntmps84
  go_wp2
  refine wp_loop_rounds 1 ?_
  rw [rounds_succ]; go_wp2; go_end0
  exact ⟨rfl, rfl⟩
set_option maxHeartbeats 2000000 in
theorem insert_own (base : Nat) (v : Value) (ts : List TV) (w : World) (ho : w.ownsRow base 94 2 v ts.length (ts.flatMap vcell)) (hv : ∀ t ∈ ts, VwAt w t) (hl : ts.length ≤ 1000) :
    Calls Tryz.prog 84 #[v, .int .i64 0, .int .i64 ts.length, .func (.func 43) #[] #[]] w fun e w' => e = .returned (.tuple #[]) ∧ ∃ ts' : List TV, ts'.Perm ts ∧ (ts'.map (·.2)).Pairwise (fun a b => Kn.cmpV a b ≤ 0) ∧ w'.ownsRow base 94 2 v ts'.length (ts'.flatMap vcell) ∧ w.grownBy w' v.ownBlock := by
  by_cases hts : ts = []
  · subst hts
    obtain ⟨a, c, rfl, _⟩ := own_shape2 ho; refine (insert_none a c _ w).mono ?_; rintro e w' ⟨rfl, rfl⟩
    exact ⟨rfl, [], .refl _, .nil, ho, ⟨rfl, rfl, rfl, Nat.le_refl _, fun _ _ _ => rfl⟩⟩
  obtain ⟨t0, ht0⟩ : ∃ t, t ∈ ts := List.exists_mem_of_ne_nil _ hts
  have hlen : 0 < ts.length := List.length_pos_iff.2 hts
  rcases ho.2 with ⟨_, h0⟩ | ⟨g, cap, cur, rfl, hb, hg, h1, h2, h3, h4⟩
  · omega
  haveI : Inhabited {t : TV // VwAt w t} := ⟨⟨t0, hv t0 ht0⟩⟩
  obtain ⟨L, hL⟩ : ∃ L : List {t : TV // VwAt w t}, L.map Subtype.val = ts := ⟨ts.attachWith (VwAt w) hv, List.attachWith_map_subtype_val _⟩
  let enc : {t : TV // VwAt w t} → List Value := fun t => vcell t.1
  have hk : ∀ x, (enc x).length = 2 := fun _ => rfl
  have hLl : L.length = ts.length := by rw [← hL, List.length_map]
  have hflat : ∀ M : List {t : TV // VwAt w t}, M.flatMap enc = (M.map Subtype.val).flatMap vcell := fun M => by rw [List.flatMap_map]
  have hF : (flatK enc 2 L.toArray).toList = ts.flatMap vcell := by rw [flatK_list enc hk, hflat, List.toList_toArray, hL]
  have hFs : (flatK enc 2 L.toArray).size = ts.length * 2 := by rw [size_flatK]; simp [hLl]
  have hH : HoldsK enc 2 w g 0 L.toArray := holds_of_block hg (by rw [hFs, h4, hF])
  have h1c : ∀ x, ∀ u ∈ enc x, u.oneCell' = true := fun x u hu => by
    obtain ⟨a1, c1, e1, _⟩ := own_shape2 x.2.1; obtain ⟨a2, c2, e2, _⟩ := own_shape2 x.2.2.1; have : u ∈ [x.1.1.1, x.1.1.2] := hu; rw [e1, e2] at this; simp only [List.mem_cons, List.not_mem_nil, or_false] at this
    rcases this with rfl | rfl <;> rfl
  have eg : ∀ args w, (callFunc 43 args).run Tryz.prog w = .ok (.enter 43 args) w := enters_of Tryz.func43 (by kernel_rfl) rfl
  have hcmp : CmpLays Tryz.prog 43 #[] enc 2 (fun x y => Kn.cmpV x.1.2 y.1.2) g 0 L.toArray.size w := fun m os dk _ x y => by
    have hW : w.grownBy (sortWorldK enc 2 w g 0 m dk os) (some g) := grownBy_sortedK _
    have hne : ∀ {u : Value} {n : Nat} {xs : List Value}, w.ownsRow 0 3 1 u n xs → ∀ k, u.ownBlock = some k → some k ≠ some g := fun hr k hk e => blk_not_own hg hr (by decide) (by rw [hk, e])
    have hx := x.2.kept hW (hne x.2.1) (hne x.2.2.1); have hy := y.2.kept hW (hne y.2.1) (hne y.2.2.1)
    exact form1_any _ _ 0 0 x.1.2 y.1.2 _ ⟨_, _, rfl, hx.1, hx.2.1⟩ ⟨_, _, rfl, hy.1, hy.2.1⟩ hx.2.2.1 hx.2.2.2 hy.2.2.1 hy.2.2.2
  have hcon := AnyQ.insertionSortCmpFunc Tryz.layIns 2 Tryz.isAgg94 Tryz.sizeOf94 enc hk h1c (fun x y => Kn.cmpV x.1.2 y.1.2) 43 #[] g 0 cap 0 L.toArray.size L.toArray w eg hcmp hH (Array.getElem?_eq_some_iff.1 hg).1 (Nat.zero_le _) (Nat.le_refl _) (by simp; omega)
  change Calls Tryz.prog 84 _ _ _ at hcon
  rw [List.size_toArray, hLl] at hcon
  refine hcon.mono ?_
  rintro e w' ⟨rfl, n, os, rfl⟩; obtain ⟨⟨p1, _, p3⟩, p4⟩ := insertionSort_holds (swoV (VwAt w)) L.toArray 0 ts.length (Nat.zero_le _) (by simp; omega); have e0 : (Sort.insertionSort (ltOf fun x y : {t : TV // VwAt w t} => Kn.cmpV x.1.2 y.1.2) L.toArray 0 ts.length) = (Sort.insertionSort (ltOf fun x y : {t : TV // VwAt w t} => Kn.cmpV x.1.2 y.1.2) L.toArray 0 ts.length) := rfl; generalize (Sort.insertionSort (ltOf fun x y : {t : TV // VwAt w t} => Kn.cmpV x.1.2 y.1.2) L.toArray 0 ts.length) = d' at p1 p3 p4 ⊢; clear e0 hcon
  have hs : d'.size = ts.length := by rw [p1]; simp [hLl]
  have hp : d'.toList.Perm L := by
    rw [Array.extract_eq_self_of_le (by omega), Array.extract_eq_self_of_le (by simp; omega)] at p3
    simpa using p3
  have hps : (d'.toList.map Subtype.val).Perm ts := by rw [← hL]; exact hp.map _
  refine ⟨rfl, d'.toList.map Subtype.val, hps, ?_, ?_, grownBy_sortedK _⟩
  · rw [List.map_map, List.pairwise_map, List.pairwise_iff_getElem]
    intro i j hi hj hij
    have := p4 i j (Nat.zero_le _) hij (by simpa [hs] using hj); simp only [ltOf, decide_eq_false_iff_not] at this; simp only [Array.length_toList] at hi hj; rw [getElem!_pos d' i hi, getElem!_pos d' j hj] at this; have h2 := Kn.cmpV_anti (d'[i]).1.2 (d'[j]).1.2; simp only [Function.comp, Array.getElem_toList]
    omega
  · rw [hps.length_eq]
    have hF' : (flatK enc 2 d').toList = (d'.toList.map Subtype.val).flatMap vcell := by rw [flatK_list enc hk, hflat]
    have hFs' : (flatK enc 2 d').size = ts.length * 2 := by rw [size_flatK, hs]
    refine ⟨by rw [← hF', Array.length_toList, hFs'], .inr ⟨g, cap, _, rfl, hb, heap_sortedK _ hg, h1, h2, by simp [putCells, h3], ?_⟩⟩
    rw [← hFs', take_putCellsK _ _ (by rw [hFs', h3]; omega), hF']
end Go.Proofs.YtgjmjbgicfkojaaGreat

/- slices.SortStableFunc at views. -/
namespace Go.Proofs.YtgjmjbgicfkojaaGreat
open Go.RowKit Go.Sort

set_option maxHeartbeats 2000000 in
theorem stable_own (base : Nat) (v : Value) (ts : List TV) (w : World) (ho : w.ownsRow base 94 2 v ts.length (ts.flatMap vcell)) (hv : ∀ t ∈ ts, VwAt w t) (hl : ts.length ≤ 16) :
    Calls Tryz.prog 73 #[v, .int .i64 ts.length, .func (.func 43) #[] #[]] w fun e w' => e = .returned (.tuple #[]) ∧ ∃ ts' : List TV, ts'.Perm ts ∧ (ts'.map (·.2)).Pairwise (fun a b => Kn.cmpV a b ≤ 0) ∧ w'.ownsRow base 94 2 v ts'.length (ts'.flatMap vcell) ∧ w.grownBy w' v.ownBlock := by
  obtain ⟨R, HR⟩ : ∃ R : World → Prop, Hid (∀ w', R w' ↔ ∃ ts' : List TV, ts'.Perm ts ∧ (ts'.map (·.2)).Pairwise (fun a b => Kn.cmpV a b ≤ 0) ∧ w'.ownsRow base 94 2 v ts'.length (ts'.flatMap vcell) ∧ w.grownBy w' v.ownBlock) := ⟨_, Lib.hid fun _ => Iff.rfl⟩
  have hc := (insert_own base v ts w ho hv (by omega)).mono (R' := fun e w' => e = .returned (.tuple #[]) ∧ R w') fun e w' h => ⟨h.1, (HR.out w').2 h.2⟩
  suffices hs : Calls Tryz.prog 73 #[v, .int .i64 ts.length, .func (.func 43) #[] #[]] w (fun e w' => e = .returned (.tuple #[]) ∧ R w') from hs.mono fun e w' h => ⟨h.1, (HR.out w').1 h.2⟩
  obtain ⟨a, c, rfl, _⟩ := own_shape2 ho; clear HR ho hv
  obtain ⟨n, hn⟩ : ∃ n, n = ts.length := ⟨_, rfl⟩
  rw [← hn] at hl hc ⊢; clear hn
  have h20 : (n : Int) < 20 := by omega
  have HC := Lib.hid hc; clear hc
  go_enter Tryz.func73, Tryz.ntmps73
  go_wp2
  refine wp_loop_rounds 1 ?_
  rw [rounds_succ]
  go_wp2_with (go_at_call 84; refine HC.out.mono ?_; rintro e w' ⟨rfl, hR⟩; have HRw := Lib.hid hR; clear hR)
  refine wp_loop_rounds 1 ?_
  rw [rounds_succ]; go_wp2; go_end0
  exact ⟨rfl, HRw.out⟩
theorem sortV_own (base : Nat) (v : Value) (ts : List TV) (w : World) (ho : w.ownsRow base 94 2 v ts.length (ts.flatMap vcell)) (hv : ∀ t ∈ ts, VwAt w t) (hl : ts.length ≤ 16) :
    Calls Tryz.prog 42 #[v, .func (.func 43) #[] #[]] w fun e w' => e = .returned (.tuple #[]) ∧ ∃ ts' : List TV, ts'.Perm ts ∧ (ts'.map (·.2)).Pairwise (fun a b => Kn.cmpV a b ≤ 0) ∧ w'.ownsRow base 94 2 v ts'.length (ts'.flatMap vcell) ∧ w.grownBy w' v.ownBlock := by
  obtain ⟨R, HR⟩ : ∃ R : World → Prop, Hid (∀ w', R w' ↔ ∃ ts' : List TV, ts'.Perm ts ∧ (ts'.map (·.2)).Pairwise (fun a b => Kn.cmpV a b ≤ 0) ∧ w'.ownsRow base 94 2 v ts'.length (ts'.flatMap vcell) ∧ w.grownBy w' v.ownBlock) := ⟨_, Lib.hid fun _ => Iff.rfl⟩
  have hc := (stable_own base v ts w ho hv hl).mono (R' := fun e w' => e = .returned (.tuple #[]) ∧ R w') fun e w' h => ⟨h.1, (HR.out w').2 h.2⟩
  suffices hs : Calls Tryz.prog 42 #[v, .func (.func 43) #[] #[]] w (fun e w' => e = .returned (.tuple #[]) ∧ R w') from hs.mono fun e w' h => ⟨h.1, (HR.out w').1 h.2⟩
  obtain ⟨a, c, rfl, _⟩ := own_shape2 ho; clear HR ho hv
  obtain ⟨n, hn⟩ : ∃ n, n = ts.length := ⟨_, rfl⟩
  rw [← hn] at hl hc ⊢; clear hn; have HC := Lib.hid hc; clear hc
  go_enter Tryz.func42, Tryz.ntmps42
  go_wp2_with (go_at_call 73; refine HC.out.mono ?_; rintro e w' ⟨rfl, hR⟩; have HRw := Lib.hid hR; clear hR)
  go_end0
  exact ⟨rfl, HRw.out⟩
end Go.Proofs.YtgjmjbgicfkojaaGreat

/- Walks: Form$2 (an arc's new number). -/
namespace Go.Proofs.YtgjmjbgicfkojaaGreat
open Go.RowKit

def NMap (W : World) (mb : Nat) (N : List Nat) : Prop :=
  ∃ D : DataW Unit, W.ownsMap Tryz.prog 3 (plainElem Tryz.prog 3) mb N.length D ∧ Maps.IsMap D ∧ Maps.size D = N.length ∧ ∀ x : Nat, D.atKey (.int .i64 (x : Nat)) (.lit (.int .i64 0)) = .lit (.int .i64 (if x ∈ N then (N.idxOf x + 1 : Nat) else 0 : Nat)) ∧ Maps.has D (.int .i64 (x : Nat)) = decide (x ∈ N)
theorem NMap.two {W : World} {mb : Nat} {N : List Nat} (h : NMap W mb N) : NumMap2 W mb N (fun x => N.idxOf x + 1) := by
  obtain ⟨D, h1, h2, _, h3⟩ := h
  exact ⟨D, h1, h2, h3⟩
theorem NMap.made (w : World) : NMap (w.alloc (.map #[] 0)) w.heap.size [] := ⟨_, World.ownsMap_made _ _ _ _, Maps.isMap_empty, rfl, fun x => ⟨by rw [if_neg (by simp)]; rfl, by rw [decide_eq_false (by simp)]; rfl⟩⟩
theorem NMap.fr {S : Nat → Prop} {W W' : World} {mb : Nat} {N : List Nat} (h : NMap W mb N) (hf : Fr S W W') (hs : ¬ S mb) : NMap W' mb N := by
  obtain ⟨D, ⟨es, ck, hb, r⟩, h1⟩ := h
  exact ⟨D, ⟨es, ck, (hf.block mb (Array.getElem?_eq_some_iff.1 hb).1 hs).trans hb, r⟩, h1⟩
theorem NMap.block {W : World} {mb : Nat} {N : List Nat} (h : NMap W mb N) : ∃ es ck, W.heap[mb]? = some (.map es ck) := h.two.block
theorem meet_in {N : List Nat} {x : Nat} (h : x ∈ N) : Kn.meet N x = N := by unfold Kn.meet; rw [if_pos h]
theorem meet_out {N : List Nat} {x : Nat} (h : x ∉ N) : Kn.meet N x = N ++ [x] := by unfold Kn.meet; rw [if_neg h]
theorem idx_val (mb x : Nat) (N : List Nat) {W : World} {D : DataW Unit} (hx : x ∉ N) (h0 : W.ownsMap Tryz.prog 3 (plainElem Tryz.prog 3) mb (N.length + 1) (D.put (.int .i64 (x : Nat)) (.lit (.int .i64 (N.length + 1 : Nat)))))
    (h1 : Maps.IsMap D) (ht : Maps.Tidy D) (hs : Maps.size D = N.length) (h2 : ∀ x : Nat, D.atKey (.int .i64 (x : Nat)) (.lit (.int .i64 0)) = .lit (.int .i64 (if x ∈ N then (N.idxOf x + 1 : Nat) else 0 : Nat)) ∧ Maps.has D (.int .i64 (x : Nat)) = decide (x ∈ N)) : NMap W mb (N ++ [x]) := by
  refine ⟨_, by rw [List.length_append]; exact h0, h1.put _ _, ?_, fun z => ?_⟩
  · rw [Maps.size_put ht, (h2 x).2, decide_eq_false hx, if_neg (by simp), hs, List.length_append, List.length_singleton]
  · have hk : WideAt.IsKeyLit (.int .i64 (x : Nat)) := trivial
    by_cases c : z = x
    · subst c
      refine ⟨?_, ?_⟩
      · rw [Maps.atKey_put_same h1 hk, if_pos (by simp), idx_new hx]
      · rw [Maps.has_put_same h1 hk, decide_eq_true (by simp)]
    · have hne : (Lit.int .i64 (z : Nat)) ≠ .int .i64 (x : Nat) := fun e => c (by injection e with _ e; omega)
      rw [Maps.atKey_put_other hne, Maps.has_put_other hne, (h2 z).1, (h2 z).2]
      by_cases d : z ∈ N
      · rw [if_pos d, if_pos (by simp [d]), idx_keep d, decide_eq_true d, decide_eq_true (by simp [d])]; exact ⟨rfl, rfl⟩
      · rw [if_neg d, if_neg (by simp [d, c]), decide_eq_false d, decide_eq_false (by simp [d, c])]; exact ⟨rfl, rfl⟩

set_option maxRecDepth 100000 in
set_option maxHeartbeats 4000000 in
theorem named_any (x B mb : Nat) (N : List Nat) (w : World) (hx : x ≤ 1000) (hN : N.length ≤ 900) (hbox : w.heap[B]? = some (.cells #[.map (some mb)] 80 (0, 0))) (hm : NMap w mb N) :
    Calls Tryz.prog 45 #[.int .i64 (x : Nat), .pointer (some ⟨B, 0, none⟩)] w (fun e w' => e = .returned (.int .i64 ((Kn.meet N x).idxOf x + 1 : Nat)) ∧ NMap w' mb (Kn.meet N x) ∧ Fr (fun k => k = mb) w w') := by
  have hb0 := (box_c hbox).1
  obtain ⟨vv, HVV⟩ : ∃ vv : Nat, Hid (vv = (Kn.meet N x).idxOf x + 1) := ⟨_, Lib.hid rfl⟩
  rw [← HVV.out]
  by_cases hxN : x ∈ N
  · rw [meet_in hxN] at HVV
    have hk := hm.two.look (x := x) hx; have hk1 := hm.two.look1 hxN hx; rw [if_pos hxN, decide_eq_true hxN, ← HVV.out] at hk; rw [← HVV.out] at hk1; rw [meet_in hxN]; have HM := Lib.hid hm; clear hm hbox hxN
    go_enter Tryz.func45, Tryz.ntmps45
    go_wp2; go_ret
    exact ⟨rfl, HM.out, Fr.refl _ _⟩
  · have hk := hm.two.look (x := x) hx
    rw [if_neg hxN, decide_eq_false hxN] at hk; rw [meet_out hxN] at HVV ⊢; obtain ⟨es, ck, hmb⟩ := hm.block
    have hBm : ¬ B = mb := fun e => by subst e; rw [hbox] at hmb; cases hmb
    obtain ⟨D, hown, h1, hs, h2⟩ := hm; have ht := hown.tidy Tryz.law3
    obtain ⟨m, HM⟩ : ∃ m, Hid (m = N.length) := ⟨_, Lib.hid rfl⟩
    rw [← HM.out] at hown hs hN
    have hv1 : vv = m + 1 := by rw [HVV.out, idx_new hxN, HM.out]
    subst hv1; have hlen := hown.len Tryz.ul80 3; rw [hs] at hlen; have HO := Lib.hid hown; have H1 := Lib.hid h1; have HT := Lib.hid ht; have HS := Lib.hid hs; have H2 := Lib.hid h2; have HB := Lib.hid hbox; have HX := Lib.hid hxN; have HWk := Lib.hid (wfN (x := x) (by omega)); have HWm := Lib.hid (wfN (x := m + 1) (by omega)); clear hown h1 ht hs h2 hbox hxN hmb
    go_enter Tryz.func45, Tryz.ntmps45
    go_wp2_with (first
      | (at_mapUpdate; refine wpList_mapUpdate_own _ rfl _ _ _ 80 rfl 3 3 Tryz.law3 Tryz.ul80 _ mb m _ rfl HO.out (by unfold maxLen; omega) _ _ _ rfl rfl (Maps.keyOf_int_mk Tryz.underlying3 HWk.out) _ [] (plainElem_int Tryz.underlying3 HWm.out) ?_; intro w6 hown6 hg6; have HN6 : Hid (NMap w6 mb (N ++ [x])) := Lib.hid (idx_val mb x N HX.out (by rw [← HM.out]; exact hown6) H1.out HT.out (by rw [HS.out, HM.out]) H2.out); have HF6 : Hid (Fr (fun k => k = mb) w w6) := Lib.hid ((Fr.refl (fun k => k = mb) _).grown hg6 fun k e => .inl (Option.some.inj e).symm); have hb6 := (box_c (HF6.out.blk HB.out hBm)).1; have hk6 := HN6.out.two.look1 (x := x) (by simp) (by omega); rw [idx_new HX.out, ← HM.out] at hk6; clear hown6 hg6))
    go_ret
    exact ⟨rfl, HN6.out, HF6.out⟩
end Go.Proofs.YtgjmjbgicfkojaaGreat

/- Words for Form. -/
namespace Go.Proofs.YtgjmjbgicfkojaaGreat
open Go.RowKit

theorem Tryz.info94 : (Tryz.prog.info? 94).map (fun i => (i.zero, i.size, i.bytes)) = some (some (.agg #[.slice none 0 0, .slice none 0 0]), 2, 48) := by kernel_rfl
theorem see_small {X : List Kn.Cr} (hX : Kn.Ok X) (hl : X.length ≤ 16) {c : Nat} (hc : c < X.length) : (Kn.see X c).1.length ≤ 1000 ∧ (Kn.see X c).2.length ≤ 1000 := by
  have h := hX.see_vw hc; have h1 : (Kn.see X c).1.length ≤ X.length := h.piece.le; have h2 := h.len
  omega
theorem VwAt.new {w w' : World} {t : TV} (h : VwAt w t) (hf : New w w') : VwAt w' t := ⟨hf.owns h.1 fun _ _ x => x, hf.owns h.2.1 fun _ _ x => x, h.2.2⟩
theorem VwAt.sl {w : World} {t : TV} (h : VwAt w t) : ∃ a c a' c', t.1 = (.slice a t.2.1.length c, .slice a' t.2.2.length c') := by
  obtain ⟨a, c, e, _⟩ := own_shape2 h.1; obtain ⟨a', c', e', _⟩ := own_shape2 h.2.1
  exact ⟨a, c, a', c', by rw [← e, ← e']⟩
theorem VwAt.app {w w' : World} {o : Obj} {base e sz n : Nat} {v : Value} {xs : List Value} {t : TV} (h : VwAt w t) (h' : w.ownsRow base e sz v n xs) (hne : (3 : Nat) ≠ e) (hg : (w.alloc o).grownBy w' v.ownBlock) : VwAt w' t :=
  ⟨own_app h.1 h' hne hg, own_app h.2.1 h' hne hg, h.2.2⟩
theorem Rows.app {w w' : World} {o : Obj} {base e sz n : Nat} {v pv : Value} {xs : List Value} {ll : List (List Nat)} (h : Rows OwnN 0 52 w pv ll) (h' : w.ownsRow base e sz v n xs) (h3 : (3 : Nat) ≠ e) (h35 : (52 : Nat) ≠ e) (hg : (w.alloc o).grownBy w' v.ownBlock) : Rows OwnN 0 52 w' pv ll := by
  obtain ⟨vs, h1, h2⟩ := h
  exact ⟨vs, own_app h1 h' h35 hg, h2.mono fun u l hn => own_app (show w.ownsRow 0 3 1 u l.length (nums l) from hn) h' h3 hg⟩
structure FA (w wr : World) (X : List Kn.Cr) (q : Nat) (pv v : Value) (ts : List TV) : Prop where
  new : New w wr
  rows : Rows OwnN 0 52 wr pv (Kn.piecesL X)
  own : wr.ownsRow w.heap.size 94 2 v ts.length (ts.flatMap vcell)
  at_ : ∀ t ∈ ts, VwAt wr t
  eq : ts.map (·.2) = ((Kn.piecesL X).take q).map (Kn.best X)
theorem FA.nw {w wr w' : World} {X : List Kn.Cr} {q : Nat} {pv v : Value} {ts : List TV} (h : FA w wr X q pv v ts) (hf : New wr w') : FA w w' X q pv v ts :=
  ⟨h.new.trans hf, RowsN.new h.rows hf, hf.owns h.own fun _ _ x => x, fun t ht => (h.at_ t ht).new hf, h.eq⟩
theorem FA.len {w wr : World} {X : List Kn.Cr} {q : Nat} {pv v : Value} {ts : List TV} (h : FA w wr X q pv v ts) (hq : q ≤ (Kn.piecesL X).length) : ts.length = q := by
  have := congrArg List.length h.eq; simp only [List.length_map, List.length_take] at this
  omega
theorem FA.push {w w5 w7 : World} {X : List Kn.Cr} {q m : Nat} {pv v v' : Value} {ts : List TV} {o : Obj} (h : FA w w5 X q pv v ts) {t : TV} (ht : VwAt w5 t) (hq : q < (Kn.piecesL X).length) (he : t.2 = Kn.best X ((Kn.piecesL X)[q])) (hm : m = ts.length)
    (hown : w7.ownsRow w.heap.size 94 2 v' (m + 1) (ts.flatMap vcell ++ vcell t)) (hg : (w5.alloc o).grownBy w7 v.ownBlock) : FA w w7 X (q + 1) pv v' (ts ++ [t]) := by
  have F : Fr (fun k => v.ownBlock = some k) w5 w7 := ((Fr.refl _ w5).alloc o).grown hg fun k e => .inl e
  refine ⟨h.new.next F fun i hi => .inr (own_lb h.own i hi), h.rows.app h.own (by decide) (by decide) hg, ?_, fun u hu => ?_, ?_⟩
  · rw [List.length_append, List.flatMap_append, ← hm]
    simpa using hown
  · rw [List.mem_append, List.mem_singleton] at hu
    rcases hu with hu | rfl
    · exact (h.at_ u hu).app h.own (by decide) hg
    · exact ht.app h.own (by decide) hg
  · rw [List.map_append, h.eq, List.take_succ_eq_append_getElem hq, List.map_append]
    simp [he]
def bestK (X : List Kn.Cr) (l : List Nat) (j : Nat) : Kn.Vw := (l.tail.take j).foldl (fun b c => if Kn.cmpL (Kn.see X c).2 b.2 < 0 then Kn.see X c else b) (Kn.see X (l.headD 0))
theorem bestK_succ {X : List Kn.Cr} {l : List Nat} {j : Nat} (h : j + 1 < l.length) : bestK X l (j + 1) = if Kn.cmpL (Kn.see X l[j + 1]).2 (bestK X l j).2 < 0 then Kn.see X l[j + 1] else bestK X l j := by
  unfold bestK
  have hj : j < l.tail.length := by simp; omega
  rw [List.take_succ_eq_append_getElem hj, List.foldl_append]
  simp
theorem bestK_all {X : List Kn.Cr} {l : List Nat} {j : Nat} (h : l.length ≤ j + 1) : bestK X l j = Kn.best X l := by
  unfold bestK Kn.best
  rw [List.take_of_length_le (by simp; omega)]
structure FB (wo wr : World) (B : Nat) (X : List Kn.Cr) (l : List Nat) (j : Nat) (b : TV) : Prop where
  new : New wo wr
  lb : wo.heap.size ≤ B
  box : wr.heap[B]? = some (.cells #[b.1.1, b.1.2] 94 (0, 0))
  at_ : VwAt wr b
  eq : b.2 = bestK X l j
theorem FB.nw {wo wr w' : World} {B : Nat} {X : List Kn.Cr} {l : List Nat} {j : Nat} {b : TV} (h : FB wo wr B X l j b) (hf : New wr w') : FB wo w' B X l j b :=
  ⟨h.new.trans hf, h.lb, hf.blk h.box fun x => x, h.at_.new hf, h.eq⟩
theorem FB.set {wo wr : World} {B : Nat} {X : List Kn.Cr} {l : List Nat} {j : Nat} {b t : TV} (h : FB wo wr B X l j b) (ht : VwAt wr t) (he : t.2 = bestK X l (j + 1)) : FB wo ((wr.setCell ⟨B, 0, none⟩ t.1.1).setCell ⟨B, 1, none⟩ t.1.2) B X l (j + 1) t := by
  have hS : Fr (fun k => k = B) wr ((wr.setCell ⟨B, 0, none⟩ t.1.1).setCell ⟨B, 1, none⟩ t.1.2) := by refine Fr.setCell (Fr.setCell (Fr.refl _ wr) ?_ _) ?_ _ <;> exact .inl rfl
  refine ⟨h.new.next hS fun i hi => .inr (by rw [hi]; exact h.lb), h.lb, (box2_set (box2_set h.box t.1.1).1 t.1.2).2, ?_, he⟩
  exact ⟨hS.owns ht.1 fun k hk e => blk_not_own h.box ht.1 (by decide) (e ▸ hk), hS.owns ht.2.1 fun k hk e => blk_not_own h.box ht.2.1 (by decide) (e ▸ hk), ht.2.2⟩
end Go.Proofs.YtgjmjbgicfkojaaGreat

/- Words for Form's second half. -/
namespace Go.Proofs.YtgjmjbgicfkojaaGreat
open Go.RowKit

theorem crCells_snoc (X : List Kn.Cr) (x : Kn.Cr) : crCells (X ++ [x]) = crCells X ++ [.int .i64 x.a, .int .i64 x.b, .int .i64 x.c, .int .i64 x.d, .bool x.p] := by
  apply List.ext_getElem?
  intro j
  by_cases c : j < X.length * 5
  · rw [crCells_at (by simp; omega), List.getElem?_append_left (by rw [crCells_length]; exact c), crCells_at c]
    have : Kn.cr (X ++ [x]) (j / 5) = Kn.cr X (j / 5) := by
      unfold Kn.cr
      rw [List.getD_eq_getElem?_getD, List.getD_eq_getElem?_getD, List.getElem?_append_left (by omega)]
    unfold crFn
    rw [this]
  · by_cases c' : j < X.length * 5 + 5
    · rw [crCells_at (by simp; omega), List.getElem?_append_right (by rw [crCells_length]; omega), crCells_length]
      have e1 : j / 5 = X.length := by omega
      have : Kn.cr (X ++ [x]) (j / 5) = x := by
        unfold Kn.cr
        rw [List.getD_eq_getElem?_getD, e1]
        simp
      unfold crFn
      rw [this]
      obtain ⟨k, hk, rfl⟩ : ∃ k, k < 5 ∧ j = X.length * 5 + k := ⟨j - X.length * 5, by omega, by omega⟩
      rw [show (X.length * 5 + k) % 5 = k by omega, show X.length * 5 + k - X.length * 5 = k by omega]
      match k, hk with
      | 0, _ => rfl
      | 1, _ => rfl
      | 2, _ => rfl
      | 3, _ => rfl
      | 4, _ => rfl
    · rw [List.getElem?_eq_none (by rw [crCells_length]; simp; omega), List.getElem?_eq_none (by simp [crCells_length]; omega)]
theorem ShAt.loops {w : World} {b : Nat} {X : List Kn.Cr} {L : Int} (h : ShAt w b X L) : w.cell? ⟨b, 1, none⟩ = some (.int .i64 L) := by
  obtain ⟨v, bi, bo, base, s⟩ := h
  exact s.c2.2.1
theorem arc_nat {X : List Kn.Cr} (hX : Kn.Ok X) {c : Nat} (hc : c < X.length) : (Kn.cr X c).a = (Kn.arcN X (c, 0) : Nat) ∧ (Kn.cr X c).b = (Kn.arcN X (c, 1) : Nat) ∧ (Kn.cr X c).c = (Kn.arcN X (c, 2) : Nat) ∧ (Kn.cr X c).d = (Kn.arcN X (c, 3) : Nat) ∧ ∀ s, s < 4 → Kn.arcN X (c, s) ≤ 2 * X.length := by
  have h : ∀ s, s < 4 → Kn.at_ X (c, s) = (Kn.arcN X (c, s) : Nat) ∧ Kn.arcN X (c, s) ≤ 2 * X.length := fun s hs => by
    have h1 := hX.isArc (X := X) (p := (c, s)) ⟨hc, hs⟩
    unfold Kn.isArc Kn.nArcs at h1
    refine ⟨?_, h1.2⟩
    have h2 := h1.1
    unfold Kn.arcN at h2 ⊢
    omega
  exact ⟨(h 0 (by omega)).1, (h 1 (by omega)).1, (h 2 (by omega)).1, (h 3 (by omega)).1, fun s hs => (h s hs).2⟩
structure FC (w0 wr : World) (D FBx mb : Nat) (X : List Kn.Cr) (L : Int) (os : List Nat) (sc : Value) : Prop where
  new : New w0 wr
  ld : w0.heap.size ≤ D
  lm : w0.heap.size ≤ mb
  box : wr.heap[D]? = some (.cells #[sc, .int .i64 L] 24 (0, 0))
  fb : wr.heap[FBx]? = some (.cells #[.map (some mb)] 80 (0, 0))
  own : wr.ownsRow w0.heap.size 75 5 sc os.length (crCells (Kn.numbered X os))
  map : NMap wr mb (Kn.firsts (os.flatMap (Kn.arcsOf X)))
theorem FC.nw {w0 wr w' : World} {D FBx mb : Nat} {X : List Kn.Cr} {L : Int} {os : List Nat} {sc : Value} (h : FC w0 wr D FBx mb X L os sc) (hf : New wr w') : FC w0 w' D FBx mb X L os sc :=
  ⟨h.new.trans hf, h.ld, h.lm, hf.blk h.box fun x => x, hf.blk h.fb fun x => x, hf.owns h.own fun _ _ x => x, h.map.fr hf fun x => x⟩

def oq (xs : List Kn.Vw) (q : Nat) : List Nat := (xs.take q).flatMap (·.1)
theorem oq_succ {xs : List Kn.Vw} {q : Nat} (h : q < xs.length) : oq xs (q + 1) = oq xs q ++ xs[q].1 := by
  unfold oq
  rw [List.take_succ_eq_append_getElem h, List.flatMap_append]
  simp
theorem oq_pre (xs : List Kn.Vw) (q : Nat) : oq xs q <+: xs.flatMap (·.1) := by
  unfold oq
  conv => rhs; rw [← List.take_append_drop q xs, List.flatMap_append]
  exact List.prefix_append _ _
theorem oq_few {xs : List Kn.Vw} {q j n : Nat} (h : q < xs.length) (hn : (xs.flatMap (·.1)).length = n) : (oq xs q ++ xs[q].1.take j).length ≤ n := by
  have h1 := (oq_pre xs (q + 1)).length_le; rw [oq_succ h] at h1; simp only [List.length_append, List.length_take] at h1 ⊢
  omega
theorem vrow_cell {w : World} {base g m c : Nat} {ts : List TV} (h : w.ownsRow base 94 2 (.slice (some ⟨g, 0, none⟩) m c) ts.length (ts.flatMap vcell)) {q : Nat} (hq : q < ts.length) : w.cell? ⟨g, q * 2, none⟩ = some ts[q].1.1 ∧ w.cell? ⟨g, q * 2 + 1, none⟩ = some ts[q].1.2 := by
  have hk : ∀ x : TV, (vcell x).length = 2 := fun _ => rfl
  have h0 := World.ownsRow.cells h (g := g) rfl (q * 2) ts[q].1.1 (by rw [flat_get vcell hk ts (q * 2) (by omega)]; simp [vcell])
  have h1 := World.ownsRow.cells h (g := g) rfl (q * 2 + 1) ts[q].1.2 (by
    rw [flat_get vcell hk ts (q * 2 + 1) (by omega)]
    have e : (q * 2 + 1) / 2 = q := by omega
    have e2 : (q * 2 + 1) % 2 = 1 := by omega
    simp [vcell, e, e2])
  rw [addr_add, Nat.zero_add] at h0 h1
  exact ⟨h0, h1⟩
theorem FC.begin (w0 : World) (X : List Kn.Cr) (L : Int) : FC w0 (((w0.alloc (.cells #[.slice none 0 0, .int .i64 L] 24)).alloc (.map #[] 0)).alloc (.cells #[.map (some (w0.heap.size + 1))] 80)) w0.heap.size (w0.heap.size + 1 + 1) (w0.heap.size + 1) X L [] (.slice none 0 0) := by
  have hn := ((((Fr.refl (fun _ => False) w0).alloc (.cells #[.slice none 0 0, .int .i64 L] 24)).alloc (.map #[] 0)).alloc (.cells #[.map (some (w0.heap.size + 1))] 80))
  refine ⟨hn, Nat.le_refl _, Nat.le_succ _, ?_, ?_, ⟨rfl, .inl ⟨rfl, rfl⟩⟩, ?_⟩
  · exact (((Fr.refl (fun _ => False) (w0.alloc (.cells #[.slice none 0 0, .int .i64 L] 24))).alloc (.map #[] 0)).alloc (.cells #[.map (some (w0.heap.size + 1))] 80)).blk (heap_alloc_new _ _) fun x => x
  · have := heap_alloc_new ((w0.alloc (.cells #[.slice none 0 0, .int .i64 L] 24)).alloc (.map #[] 0)) (.cells #[.map (some (w0.heap.size + 1))] 80)
    simpa [World.size_alloc] using this
  · have := (NMap.made (w0.alloc (.cells #[.slice none 0 0, .int .i64 L] 24))).fr ((Fr.refl (fun _ => False) _).alloc (.cells #[.map (some (w0.heap.size + 1))] 80)) fun x => x
    simpa [World.size_alloc, Kn.firsts] using this
end Go.Proofs.YtgjmjbgicfkojaaGreat
