/- Words for tangles in memory: the map of ties. -/
import Derived.Test.YtcfpdeeipbekfaaT2
namespace Go.Proofs.Ytcfpdeeipbekfaa
open Go.RowKit Go.Shelf
open Go.ChangeMaps (setBlock heap_setBlock_same heap_setBlock_other)
open Go.WideMaps (KeyLaw)
open Go.WideElems (entry_then_store)

theorem Try.row63 : (63 : TypeId) < Try.prog.types.size := of_decide_eq_true (by kernel_rfl)
theorem Try.wide60 : (match Try.prog.underlying 63 with | some (.array _ _) | some (.struct _) => true | _ => false) = true := by kernel_rfl
theorem Try.key63 : Try.prog.keyTypeAt 2 63 = true := by kernel_rfl
set_option maxRecDepth 10000 in
theorem Try.klaw60 : KeyLaw Try.prog 63 := deep_law_laid Try.laidOut (m := 2) (by omega) Try.row63 Try.key63 Try.wide60
theorem Try.law63 : Maps.Keyed Try.prog 63 := Maps.Keyed.of_law Try.klaw60
theorem Try.ul67 : Try.prog.underlying 67 = some (.map 63 63) := by kernel_rfl
theorem Try.ul75 : Try.prog.underlying 75 = some (.map 63 3) := by kernel_rfl
theorem Try.zero63 (w : World) : (zeroValue 63).run Try.prog w = .ok (.agg #[.int .i64 0, .int .i64 0]) w := by kernel_rfl
/- a corner as a value -/
abbrev plV (p : Kn.Pl) : Value := .agg #[.int .i64 (p.1 : Nat), .int .i64 (p.2 : Nat)]
def isCo (p : Kn.Pl) : Prop := p.1 < 20 ∧ p.2 < 4
theorem plKeys_all : ((List.range 20).all fun a => (List.range 4).all fun s => (keyOf Try.prog 63 (plV (a, s))).isSome) = true := by kernel_rfl
theorem plKey {p : Kn.Pl} (h : isCo p) : ∃ l, keyOf Try.prog 63 (plV p) = some l := by
  have := List.all_eq_true.1 (List.all_eq_true.1 plKeys_all p.1 (List.mem_range.2 h.1)) p.2 (List.mem_range.2 h.2)
  exact Option.isSome_iff_exists.1 this
theorem plV_inj {p q : Kn.Pl} (h : plV p = plV q) : p = q := by
  obtain ⟨a, b⟩ := p
  obtain ⟨c, d⟩ := q
  simp only [plV, Value.agg.injEq, Array.mk.injEq, List.cons.injEq, Value.int.injEq, true_and, and_true, Int.ofNat_inj] at h
  rw [h.1, h.2]
/- what a map's corners read as -/
def coElem (v : Value) : Option (DataW Unit × List MemPlace) :=
  match v with
  | .agg cs => match cs.toList with
    | [.int k a, .int k' b] => if k = .i64 ∧ k' = .i64 then some (.agg [.lit (.int .i64 a), .lit (.int .i64 b)], []) else none
    | _ => none
  | _ => none
theorem coElem_inv {v : Value} {a b : Int} {ps : List MemPlace} (h : coElem v = some (.agg [.lit (.int .i64 a), .lit (.int .i64 b)], ps)) : v = .agg #[.int .i64 a, .int .i64 b] := by
  unfold coElem at h
  split at h
  · split at h
    · rename_i cs _ k x k' y e
      split at h
      · rename_i hk
        obtain ⟨rfl, rfl⟩ := hk
        simp only [Option.some.injEq, Prod.mk.injEq, DataW.agg.injEq, List.cons.injEq, DataW.lit.injEq, Lit.int.injEq, and_true, true_and] at h
        congr 1
        apply Array.ext'
        rw [e, h.1.1, h.1.2]
      · cases h
    · cases h
  · cases h
abbrev coD (p : Kn.Pl) : DataW Unit := .agg [.lit (.int .i64 (p.1 : Nat)), .lit (.int .i64 (p.2 : Nat))]
/- the map of ties -/
structure TieD (D : DataW Unit) (f : Kn.Pl → Option Kn.Pl) : Prop where
  isMap : Maps.IsMap D
  val : ∀ p k v, keyOf Try.prog 63 (plV p) = some k → f p = some v → ∀ zd, D.atKey k zd = coD v
def TieMap (W : World) (mt n : Nat) (f : Kn.Pl → Option Kn.Pl) : Prop := ∃ D : DataW Unit, W.ownsMap Try.prog 63 coElem mt n D ∧ TieD D f
theorem TieD.empty : TieD (.map []) (fun _ => none) := ⟨Maps.isMap_empty, (fun _ _ _ _ h => by cases h)⟩
theorem TieD.put {D : DataW Unit} {f : Kn.Pl → Option Kn.Pl} (h : TieD D f) {p v : Kn.Pl} {kl : Lit} (hk : keyOf Try.prog 63 (plV p) = some kl) : TieD (D.put kl (coD v)) (Kn.putT f p v) := by
  have hkl := Try.law63.key hk
  have ne : ∀ q k, keyOf Try.prog 63 (plV q) = some k → q ≠ p → k ≠ kl := fun q k hq hn e => hn (plV_inj (Try.law63.inj (e ▸ hq) hk))
  refine ⟨h.isMap.put _ _, fun q k u hq hu zd => ?_⟩
  unfold Kn.putT at hu
  by_cases c : q = p
  · subst c
    rw [hk] at hq; cases hq
    rw [if_pos rfl] at hu; cases hu
    rw [Maps.atKey_put_same h.isMap hkl]
  · rw [if_neg c] at hu
    rw [Maps.atKey_put_other (ne q k hq c), h.val q k u hq hu]
theorem TieMap.made (w : World) : TieMap (w.alloc (.map #[] 0)) w.heap.size 0 fun _ => none := ⟨_, World.ownsMap_made _ _ _ _, TieD.empty⟩
theorem TieMap.fr {S : Nat → Prop} {W W' : World} {mb n : Nat} {f : Kn.Pl → Option Kn.Pl} (h : TieMap W mb n f) (hf : Fr S W W') (hs : ¬ S mb) : TieMap W' mb n f := by
  obtain ⟨D, ⟨es, ck, hb, r⟩, h1⟩ := h
  exact ⟨D, ⟨es, ck, (hf.block mb (Array.getElem?_eq_some_iff.1 hb).1 hs).trans hb, r⟩, h1⟩
theorem TieMap.block {W : World} {mb n : Nat} {f : Kn.Pl → Option Kn.Pl} (h : TieMap W mb n f) : ∃ es ck, W.heap[mb]? = some (.map es ck) := by
  obtain ⟨D, ⟨es, ck, hb, _⟩, _⟩ := h
  exact ⟨es, ck, hb⟩
theorem TieMap.look {W : World} {mb n : Nat} {f : Kn.Pl → Option Kn.Pl} (h : TieMap W mb n f) {p v : Kn.Pl} (hp : isCo p) (hv : f p = some v) : (Instr.lookup 67 (.map (some mb)) (plV p) false).run Try.prog W = .ok (plV v) W := by
  obtain ⟨D, hown, hd⟩ := h
  obtain ⟨kl, hk⟩ := plKey hp
  obtain ⟨u, ps, hrun, hu⟩ := hown.lookup Try.law63 Try.ul67 (Try.zero63 _) (zd := coD (0, 0)) (zp := []) rfl hk
  rw [hd.val p kl v hk hv] at hu
  rw [coElem_inv hu] at hrun
  exact hrun
/- an entry reserved, and stored behind -/
set_option maxRecDepth 100000 in
theorem TieMap.entry {W : World} {mb n : Nat} {f : Kn.Pl → Option Kn.Pl} (h : TieMap W mb n f) (hn : n < maxLen) {p v : Kn.Pl} (hp : isCo p) :
    ∃ (v0 : Value) (st : Int) (W1 W2 : World), (Instr.mapEntry 67 (.map (some mb)) (plV p)).run Try.prog W = .ok (.tuple #[v0, .int .i64 st]) W1 ∧ Fr (fun k => k = mb) W W1 ∧
      (Instr.entryStore 67 (.map (some mb)) (.int .i64 st) (plV v)).run Try.prog W1 = .ok () W2 ∧ TieMap W2 mb (n + 1) (Kn.putT f p v) ∧ Fr (fun k => k = mb) W W2 := by
  obtain ⟨D, hown, hd⟩ := h
  obtain ⟨kl, hk⟩ := plKey hp
  have hpl : coElem (plV v) = some (coD v, []) := rfl
  obtain ⟨w', hrun, ho', hg'⟩ := hown.update Try.law63 Try.ul67 hn hk hpl
  obtain ⟨es, ck, hb, F, _⟩ := hown
  obtain ⟨v0, st, es1, ck1, hr1, _, hst⟩ := entry_then_store (w := W) Try.klaw60 Try.ul67 (fun u => Try.zero63 u) hb F hk
  have hb1 : (setBlock W mb (.map es1 ck1)).heap[mb]? = some (.map es1 ck1) := heap_setBlock_same hb _
  obtain ⟨es', ck', hr2, hr3⟩ := hst (setBlock W mb (.map es1 ck1)) (plV v) hb1
  rw [setBlock_twice] at hr2
  have e : w' = setBlock W mb (.map es' ck') := by
    rw [hrun] at hr3; cases hr3; rfl
  have hF : ∀ o, Fr (fun k => k = mb) W (setBlock W mb o) := fun o => ⟨rfl, rfl, rfl, by simp [setBlock], fun i _ hi => heap_setBlock_other hb _ (fun e => hi e)⟩
  refine ⟨v0, st, _, _, hr1, hF _, hr2, ⟨_, ?_, hd.put hk⟩, hF _⟩
  rw [← e]; exact ho'
/- a tangle in memory -/
def enF (e : Kn.En) (i : Nat) : Value := if i = 0 then .bool e.c else if i = 1 then .int .i64 (e.p.1 : Nat) else if i = 2 then .int .i64 (e.p.2 : Nat) else .int .i64 (e.o : Nat)
def tgF (t : Kn.Tg) (v : Value) (mt j : Nat) : Value := if j < 16 then enF (Kn.en t.ends (j / 4)) (j % 4) else if j = 16 then v else if j = 17 then .map (some mt) else .int .i64 (t.loops : Nat)
structure TgAt (B0 : Nat) (w : World) (b mt nn : Nat) (v : Value) (t : Kn.Tg) : Prop where
  row : w.rowIs b 70 19 (tgF t v mt)
  own : w.ownsRow B0 71 4 v t.many (nums t.places)
  tie : TieMap w mt nn t.ties
  len : t.ends.length = 4
  plen : t.places.length = 4 * t.many
  lb : B0 ≤ b
  lm : B0 ≤ mt
section
variable {B0 b mt nn : Nat} {w w' : World} {v : Value} {t : Kn.Tg}
theorem TgAt.new (h : TgAt B0 w b mt nn v t) (hf : New w w') : TgAt B0 w' b mt nn v t := ⟨hf.row h.row fun x => x, hf.owns h.own fun _ _ x => x, h.tie.fr hf fun x => x, h.len, h.plen, h.lb, h.lm⟩
theorem TgAt.end_ (h : TgAt B0 w b mt nn v t) {k : Nat} (hk : k < 4) : w.cell? ⟨b, k * 4, none⟩ = some (.bool (Kn.en t.ends k).c) ∧ w.cell? ⟨b, k * 4 + 1, none⟩ = some (.int .i64 ((Kn.en t.ends k).p.1 : Nat)) ∧
    w.cell? ⟨b, k * 4 + 2, none⟩ = some (.int .i64 ((Kn.en t.ends k).p.2 : Nat)) ∧ w.cell? ⟨b, k * 4 + 3, none⟩ = some (.int .i64 ((Kn.en t.ends k).o : Nat)) := by
  have h0 := h.row.cell (i := k * 4) (by omega)
  have h1 := h.row.cell (i := k * 4 + 1) (by omega)
  have h2 := h.row.cell (i := k * 4 + 2) (by omega)
  have h3 := h.row.cell (i := k * 4 + 3) (by omega)
  unfold tgF at h0 h1 h2 h3
  rw [if_pos (by omega), show k * 4 / 4 = k by omega, show k * 4 % 4 = 0 by omega] at h0
  rw [if_pos (by omega), show (k * 4 + 1) / 4 = k by omega, show (k * 4 + 1) % 4 = 1 by omega] at h1
  rw [if_pos (by omega), show (k * 4 + 2) / 4 = k by omega, show (k * 4 + 2) % 4 = 2 by omega] at h2
  rw [if_pos (by omega), show (k * 4 + 3) / 4 = k by omega, show (k * 4 + 3) % 4 = 3 by omega] at h3
  exact ⟨h0, h1, h2, h3⟩
theorem TgAt.rest (h : TgAt B0 w b mt nn v t) : w.cell? ⟨b, 16, none⟩ = some v ∧ w.cell? ⟨b, 17, none⟩ = some (.map (some mt)) ∧ w.cell? ⟨b, 18, none⟩ = some (.int .i64 (t.loops : Nat)) :=
  ⟨h.row.cell (i := 16) (by omega), h.row.cell (i := 17) (by omega), h.row.cell (i := 18) (by omega)⟩
theorem TgAt.ne (h : TgAt B0 w b mt nn v t) : b ≠ mt := by
  obtain ⟨es, ck, hb⟩ := h.tie.block
  obtain ⟨cs, hc, _⟩ := h.row
  intro e; subst e
  rw [hb] at hc; cases hc
theorem TgAt.own_ne (h : TgAt B0 w b mt nn v t) : ∀ k, v.ownBlock = some k → k ≠ b ∧ k ≠ mt := by
  intro k hk
  refine ⟨fun e => ?_, fun e => ?_⟩
  · exact Ytcfpdeeipbekfaa.own_ne h.own h.row (by decide) k hk e
  · obtain ⟨es, ck, hb⟩ := h.tie.block
    exact own_not_map h.own hb k hk e
/- the map turned -/
theorem TgAt.tied (h : TgAt B0 w b mt nn v t) {n' : Nat} {f : Kn.Pl → Option Kn.Pl} (hf : Fr (fun k => k = mt) w w') (hm : TieMap w' mt n' f) : TgAt B0 w' b mt n' v { t with ties := f } :=
  ⟨hf.row h.row h.ne, hf.owns h.own fun k hk e => (h.own_ne k hk).2 e, hm, h.len, h.plen, h.lb, h.lm⟩
end
/- an end stored -/
def set4 (w : World) (b k : Nat) (e : Kn.En) : World := (((w.setCell ⟨b, k * 4, none⟩ (.bool e.c)).setCell ⟨b, k * 4 + 1, none⟩ (.int .i64 (e.p.1 : Nat))).setCell ⟨b, k * 4 + 2, none⟩ (.int .i64 (e.p.2 : Nat))).setCell ⟨b, k * 4 + 3, none⟩ (.int .i64 (e.o : Nat))
theorem fr_set4 (w : World) (b k : Nat) (e : Kn.En) : Fr (fun k => k = b) w (set4 w b k e) :=
  ((((Fr.refl (fun k => k = b) w).setCell (a := ⟨b, k * 4, none⟩) (.inl rfl) _).setCell (a := ⟨b, k * 4 + 1, none⟩) (.inl rfl) _).setCell (a := ⟨b, k * 4 + 2, none⟩) (.inl rfl) _).setCell (a := ⟨b, k * 4 + 3, none⟩) (.inl rfl) _
theorem en_set {l : List Kn.En} {k j : Nat} (hk : k < l.length) (e : Kn.En) : Kn.en (l.set k e) j = if j = k then e else Kn.en l j := by
  unfold Kn.en
  rw [List.getD_eq_getElem?_getD, List.getD_eq_getElem?_getD, List.getElem?_set]
  by_cases c : k = j
  · subst c; rw [if_pos rfl, if_pos rfl, if_pos hk]; rfl
  · rw [if_neg c, if_neg fun x => c x.symm]
theorem TgAt.put {B0 b mt nn : Nat} {w : World} {v : Value} {t : Kn.Tg} (h : TgAt B0 w b mt nn v t) {k : Nat} (hk : k < 4) (e : Kn.En) : TgAt B0 (set4 w b k e) b mt nn v (t.setE k e) := by
  refine ⟨?_, (fr_set4 w b k e).owns h.own fun j hj e' => (h.own_ne j hj).1 e', h.tie.fr (fr_set4 w b k e) h.ne.symm, by show (t.ends.set k e).length = 4; rw [List.length_set, h.len], h.plen, h.lb, h.lm⟩
  have hr := (((h.row.set (k * 4) (.bool e.c)).set (k * 4 + 1) (.int .i64 (e.p.1 : Nat))).set (k * 4 + 2) (.int .i64 (e.p.2 : Nat))).set (k * 4 + 3) (.int .i64 (e.o : Nat))
  refine rowIs_congr hr fun j hj => ?_
  have hl : k < t.ends.length := by rw [h.len]; exact hk
  unfold tgF
  by_cases c : j < 16
  · rw [if_pos c]
    show enF (Kn.en (t.ends.set k e) (j / 4)) (j % 4) = _
    rw [en_set hl]
    by_cases d : j / 4 = k
    · rw [if_pos d]
      have hj4 : j = k * 4 ∨ j = k * 4 + 1 ∨ j = k * 4 + 2 ∨ j = k * 4 + 3 := by omega
      rcases hj4 with rfl | rfl | rfl | rfl
      · rw [if_neg (show ¬ (k * 4 = k * 4 + 3) by omega), if_neg (show ¬ (k * 4 = k * 4 + 2) by omega), if_neg (show ¬ (k * 4 = k * 4 + 1) by omega), if_pos rfl, show k * 4 % 4 = 0 by omega]; rfl
      · rw [if_neg (show ¬ (k * 4 + 1 = k * 4 + 3) by omega), if_neg (show ¬ (k * 4 + 1 = k * 4 + 2) by omega), if_pos rfl, show (k * 4 + 1) % 4 = 1 by omega]; rfl
      · rw [if_neg (show ¬ (k * 4 + 2 = k * 4 + 3) by omega), if_pos rfl, show (k * 4 + 2) % 4 = 2 by omega]; rfl
      · rw [if_pos rfl, show (k * 4 + 3) % 4 = 3 by omega]; rfl
    · rw [if_neg d, if_neg (show ¬ (j = k * 4 + 3) by omega), if_neg (show ¬ (j = k * 4 + 2) by omega), if_neg (show ¬ (j = k * 4 + 1) by omega), if_neg (show ¬ (j = k * 4) by omega), if_pos c]
  · rw [if_neg c, if_neg (show ¬ (j = k * 4 + 3) by omega), if_neg (show ¬ (j = k * 4 + 2) by omega), if_neg (show ¬ (j = k * 4 + 1) by omega), if_neg (show ¬ (j = k * 4) by omega), if_neg c]
    rfl
end Go.Proofs.Ytcfpdeeipbekfaa
