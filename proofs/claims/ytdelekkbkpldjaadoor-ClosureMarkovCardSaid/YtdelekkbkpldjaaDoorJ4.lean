/- Words: a map keyed by kinds of states. -/
import Derived.Maps.RangeWalk
import Derived.WideKeyEntry
import Derived.Test.YtdelekkbkpldjaaDoorJ3
import Derived.Test.YtdelekkbkpldjaaDoorMAllc
namespace Go.Proofs.YtdelekkbkpldjaaDoor
open Go.RowKit Go.Shelf
open Go.ChangeMaps (setBlock heap_setBlock_same heap_setBlock_other)
open Go.WideMaps (KeyLaw)
open Go.WideElems (entry_then_store)

theorem Tryd.row96 : (96 : TypeId) < Tryd.prog.types.size := of_decide_eq_true (by kernel_rfl)
theorem Tryd.wide89 : (match Tryd.prog.underlying 96 with | some (.array _ _) | some (.struct _) => true | _ => false) = true := by kernel_rfl
theorem Tryd.key96 : Tryd.prog.keyTypeAt 2 96 = true := by kernel_rfl
set_option maxRecDepth 10000 in
theorem Tryd.klaw89 : KeyLaw Tryd.prog 96 := deep_law_laid Tryd.laidOut (m := 2) (by omega) Tryd.row96 Tryd.key96 Tryd.wide89
theorem Tryd.law96 : Maps.Keyed Tryd.prog 96 := Maps.Keyed.of_law Tryd.klaw89
theorem Tryd.ul91 : Tryd.prog.underlying 91 = some (.map 96 3) := by kernel_rfl
theorem Tryd.zero3' (w : World) : (zeroValue 3).run Tryd.prog w = .ok (.int .i64 0) w := by kernel_rfl
/- a kind as a value -/
abbrev kV (p : Int × Int) : Value := .agg #[.int .i64 p.1, .int .i64 p.2]
def isKind (p : Int × Int) : Prop := (-12 ≤ p.1 ∧ p.1 ≤ 12) ∧ 0 ≤ p.2 ∧ p.2 ≤ 40
theorem kKeys_all : ((List.range 25).all fun a => (List.range 41).all fun s => (keyOf Tryd.prog 96 (kV ((a : Int) - 12, (s : Int)))).isSome) = true := by kernel_rfl
theorem kKey {p : Int × Int} (h : isKind p) : ∃ l, keyOf Tryd.prog 96 (kV p) = some l := by
  obtain ⟨⟨h1, h2⟩, h3, h4⟩ := h
  have := List.all_eq_true.1 (List.all_eq_true.1 kKeys_all (p.1 + 12).toNat (List.mem_range.2 (by omega))) p.2.toNat (List.mem_range.2 (by omega))
  rw [show (((p.1 + 12).toNat : Nat) : Int) - 12 = p.1 by omega, show ((p.2.toNat : Nat) : Int) = p.2 by omega] at this
  exact Option.isSome_iff_exists.1 this
theorem kV_inj {p q : Int × Int} (h : kV p = kV q) : p = q := by
  obtain ⟨a, b⟩ := p
  obtain ⟨c, d⟩ := q
  simp only [kV, Value.agg.injEq, Array.mk.injEq, List.cons.injEq, Value.int.injEq, true_and, and_true] at h
  rw [h.1, h.2]
def kcP (p : Int × Int) : Int := Kn.kc p.1 p.2
theorem kcP_inj {p q : Int × Int} (h : isKind p) (k : isKind q) (e : kcP p = kcP q) : p = q := by
  obtain ⟨⟨h1, h2⟩, h3, h4⟩ := h
  obtain ⟨⟨k1, k2⟩, k3, k4⟩ := k
  unfold kcP Kn.kc at e
  exact Prod.ext (by omega) (by omega)
/- a map that counts kinds: it reads as the list l of their codes -/
structure KD (D : DataW Unit) (l : List Pl.T) : Prop where
  isMap : Maps.IsMap D
  val : ∀ p k, isKind p → keyOf Tryd.prog 96 (kV p) = some k → D.atKey k (.lit (.int .i64 0)) = .lit (.int .i64 (Pl.co l (kcP p)))
  key : ∀ k, Maps.has D k = true → ∃ p, isKind p ∧ keyOf Tryd.prog 96 (kV p) = some k ∧ ∃ t ∈ l, t.1 = kcP p
def KMap (W : World) (mb n : Nat) (l : List Pl.T) : Prop := ∃ D : DataW Unit, W.ownsMap Tryd.prog 96 (plainElem Tryd.prog 3) mb n D ∧ KD D l
theorem KD.empty : KD (.map []) [] := ⟨Maps.isMap_empty, (fun _ _ _ _ => rfl), (fun _ h => by cases h)⟩
theorem KD.put {D : DataW Unit} {l : List Pl.T} (h : KD D l) {p : Int × Int} (hp : isKind p) {kl : Lit} (hk : keyOf Tryd.prog 96 (kV p) = some kl) : KD (D.put kl (.lit (.int .i64 (Pl.co l (kcP p) + 1)))) (l ++ [(kcP p, 1)]) := by
  have hkl := Tryd.law96.key hk
  have ne : ∀ q k, keyOf Tryd.prog 96 (kV q) = some k → q ≠ p → k ≠ kl := fun q k hq hn e => hn (kV_inj (Tryd.law96.inj (e ▸ hq) hk))
  refine ⟨h.isMap.put _ _, fun q k hq' hq => ?_, fun k hx => ?_⟩
  · by_cases c : q = p
    · subst c
      rw [hk] at hq; cases hq
      rw [Maps.atKey_put_same h.isMap hkl, Pl.co_app, Pl.co_cons, Pl.co_nil, if_pos rfl]; simp
    · rw [Maps.atKey_put_other (ne q k hq c), h.val q k hq' hq, Pl.co_app, Pl.co_cons, Pl.co_nil, if_neg fun e => c (kcP_inj hp hq' e).symm]; simp
  · by_cases c : k = kl
    · subst c
      exact ⟨p, hp, hk, (kcP p, 1), by simp, rfl⟩
    · rw [Maps.has_put_other c] at hx
      obtain ⟨q, hq', hq, t, ht, e⟩ := h.key k hx
      exact ⟨q, hq', hq, t, by simp [ht], e⟩
theorem KMap.made (w : World) : KMap (w.alloc (.map #[] 0)) w.heap.size 0 [] := ⟨_, World.ownsMap_made _ _ _ _, KD.empty⟩
theorem KMap.fr {S : Nat → Prop} {W W' : World} {mb n : Nat} {l : List Pl.T} (h : KMap W mb n l) (hf : Fr S W W') (hs : ¬ S mb) : KMap W' mb n l := by
  obtain ⟨D, ⟨es, ck, hb, r⟩, h1⟩ := h
  exact ⟨D, ⟨es, ck, (hf.block mb (Array.getElem?_eq_some_iff.1 hb).1 hs).trans hb, r⟩, h1⟩
theorem KMap.lt {W : World} {mb n : Nat} {l : List Pl.T} (h : KMap W mb n l) : mb < W.heap.size := by
  obtain ⟨D, ho, _⟩ := h; exact ho.lt
theorem KMap.look {W : World} {mb n : Nat} {l : List Pl.T} (h : KMap W mb n l) {p : Int × Int} (hp : isKind p) : (Instr.lookup 91 (.map (some mb)) (kV p) false).run Tryd.prog W = .ok (.int .i64 (Pl.co l (kcP p))) W := by
  obtain ⟨D, hown, hd⟩ := h
  obtain ⟨kl, hk⟩ := kKey hp
  obtain ⟨c, hrun, hat, _⟩ := hown.lookup_int Tryd.law96 Tryd.ul91 Tryd.underlying3 (Tryd.zero3' _) hk
  rw [hd.val p kl hp hk] at hat
  have e := (Lit.int.inj (DataW.lit.inj hat)).2
  rw [e]; exact hrun
theorem setBlock_twice (w : World) (b : Nat) (x y : Obj) : setBlock (setBlock w b x) b y = setBlock w b y := by
  unfold setBlock
  congr 1
  apply Array.ext_getElem?
  intro i
  simp [Array.getElem?_setIfInBounds]
theorem setBlock_self {w : World} {b : Nat} {o : Obj} (h : w.heap[b]? = some o) : setBlock w b o = w := by
  obtain ⟨hl, e⟩ := Array.getElem?_eq_some_iff.1 h
  have : w.heap.setIfInBounds b o = w.heap := by
    apply Array.ext_getElem?
    intro i
    rw [Array.getElem?_setIfInBounds]
    split
    · rename_i c; subst c; rw [h]
    · rfl
  unfold setBlock
  rw [this]
/- an entry reserved: what the key leads to is what it was -/
theorem entry_look {P : Program} {t k e : TypeId} {w : World} {b : Nat} {es : Array MapEntry} {clock : Nat} (K : KeyLaw P k) (ht : P.underlying t = some (.map k e)) {z : Value} (hz : ∀ u : World, (zeroValue e).run P u = .ok z u) (hb : w.heap[b]? = some (.map es clock))
    (hk : ∀ x ∈ es.toList, ∃ l, keyOf P k x.key = some l) {key : Value} {kl : Lit} (hkey : keyOf P k key = some kl) :
    ∃ (x c : Value) (W1 : World), (Instr.mapEntry t (.map (some b)) key).run P w = .ok x W1 ∧ (Instr.lookup t (.map (some b)) key false).run P w = .ok c w ∧ (Instr.lookup t (.map (some b)) key false).run P W1 = .ok c W1 := by
  rcases K.find w hkey es.toList hk with ⟨h1, h2⟩ | ⟨j, e0, h1, h2, h3⟩
  · have hb1 : (setBlock w b (.map (es.push ⟨key, z, clock⟩) (clock + 1))).heap[b]? = some (.map (es.push ⟨key, z, clock⟩) (clock + 1)) := heap_setBlock_same hb _
    refine ⟨_, z, setBlock w b (.map (es.push ⟨key, z, clock⟩) (clock + 1)), by simp [Instr.mapEntry, run_underlying ht, MapKept.run_getObj_map hb, K.check w false hkey, h1, hz, MapKept.run_setObj_map _ hb, Result.andThen, setBlock]; rfl, by simp [Instr.lookup, run_underlying ht, MapKept.run_getObj_map hb, K.check w _ hkey, h1, hz, Result.andThen], ?_⟩
    rcases K.find (setBlock w b (.map (es.push ⟨key, z, clock⟩) (clock + 1))) hkey (es.push ⟨key, z, clock⟩).toList (fun x hx => by
        rw [Array.toList_push, List.mem_append, List.mem_singleton] at hx
        rcases hx with hx | rfl
        · exact hk x hx
        · exact ⟨kl, hkey⟩) with ⟨_, g2⟩ | ⟨j, e0, g1, g2, g3⟩
    · exact absurd rfl (g2 ⟨key, z, clock⟩ (by simp))
    · have hm := List.mem_of_getElem? g2
      rw [Array.toList_push, List.mem_append, List.mem_singleton] at hm
      have hv : e0.val = z := by
        rcases hm with hm | rfl
        · exact absurd g3 (h2 e0 hm)
        · rfl
      rw [hv] at g1
      simp [Instr.lookup, run_underlying ht, MapKept.run_getObj_map hb1, K.check _ _ hkey, Result.andThen]
      rw [Array.toList_push] at g1
      simp [g1]
  · have hj : es[j]? = some e0 := by simpa using h2
    have hsame : es.modify j (fun e => { e with key := key }) = es := by
      apply Array.ext_getElem?
      intro i
      rw [Array.getElem?_modify]
      split
      · rename_i c; subst c
        rw [hj]
        show some ({ e0 with key := key } : MapEntry) = some e0
        rw [← h3]
      · rfl
    refine ⟨_, e0.val, setBlock w b (.map es clock), by simp [Instr.mapEntry, run_underlying ht, MapKept.run_getObj_map hb, K.check w false hkey, h1, hj, h3, K.stays w hkey, hsame, MapKept.run_setObj_map _ hb, Result.andThen, setBlock]; rfl, by simp [Instr.lookup, run_underlying ht, MapKept.run_getObj_map hb, K.check w _ hkey, h1, Result.andThen], ?_⟩
    rw [setBlock_self hb]
    simp [Instr.lookup, run_underlying ht, MapKept.run_getObj_map hb, K.check w _ hkey, h1, Result.andThen]
/- an entry reserved, and stored behind -/
set_option maxRecDepth 100000 in
theorem KMap.entry {W : World} {mb n : Nat} {l : List Pl.T} (h : KMap W mb n l) (hn : n < maxLen) {p : Int × Int} (hp : isKind p) (hc : -1000000 ≤ Pl.co l (kcP p) ∧ Pl.co l (kcP p) ≤ 1000000) :
    ∃ (v0 : Value) (st : Int) (W1 W2 : World), (Instr.mapEntry 91 (.map (some mb)) (kV p)).run Tryd.prog W = .ok (.tuple #[v0, .int .i64 st]) W1 ∧ Fr (fun k => k = mb) W W1 ∧ (Instr.lookup 91 (.map (some mb)) (kV p) false).run Tryd.prog W1 = .ok (.int .i64 (Pl.co l (kcP p))) W1 ∧
      (Instr.entryStore 91 (.map (some mb)) (.int .i64 st) (.int .i64 (Pl.co l (kcP p) + 1))).run Tryd.prog W1 = .ok () W2 ∧ KMap W2 mb (n + 1) (l ++ [(kcP p, 1)]) ∧ Fr (fun k => k = mb) W W2 := by
  have hlk := h.look hp
  obtain ⟨D, hown, hd⟩ := h
  obtain ⟨kl, hk⟩ := kKey hp
  have hpl : plainElem (H := Unit) Tryd.prog 3 (.int .i64 (Pl.co l (kcP p) + 1)) = some (.lit (.int .i64 (Pl.co l (kcP p) + 1)), []) := plainElem_int Tryd.underlying3 (wf64 (by omega))
  obtain ⟨w', hrun, ho', hg'⟩ := hown.update Tryd.law96 Tryd.ul91 hn hk hpl
  obtain ⟨es, ck, hb, F, _⟩ := hown
  obtain ⟨v0, st, es1, ck1, hr1, _, hst⟩ := entry_then_store (w := W) Tryd.klaw89 Tryd.ul91 (fun u => Tryd.zero3' u) hb F hk
  have hb1 : (setBlock W mb (.map es1 ck1)).heap[mb]? = some (.map es1 ck1) := heap_setBlock_same hb _
  obtain ⟨es', ck', hr2, hr3⟩ := hst (setBlock W mb (.map es1 ck1)) (.int .i64 (Pl.co l (kcP p) + 1)) hb1
  rw [setBlock_twice] at hr2
  have e : w' = setBlock W mb (.map es' ck') := by
    rw [hrun] at hr3; cases hr3; rfl
  have hF : ∀ o, Fr (fun k => k = mb) W (setBlock W mb o) := fun o => ⟨rfl, rfl, rfl, by simp [setBlock], fun i _ hi => heap_setBlock_other hb _ (fun e => hi e)⟩
  obtain ⟨x0, c0, W0, e1, e2, e3⟩ := entry_look (w := W) Tryd.klaw89 Tryd.ul91 (fun u => Tryd.zero3' u) hb F.keys hk
  rw [hr1] at e1
  obtain ⟨-, rfl⟩ := Result.ok.inj e1
  rw [hlk] at e2
  obtain ⟨rfl, -⟩ := Result.ok.inj e2
  refine ⟨v0, st, _, _, hr1, hF _, e3, hr2, ⟨_, ?_, hd.put hp hk⟩, hF _⟩
  rw [← e]; exact ho'
end Go.Proofs.YtdelekkbkpldjaaDoor
