/- Words: a map keyed by kinds of states. -/
import Derived.Maps.RangeWalk
import Derived.WideKeyEntry
import Derived.Test.YtdelekkbkpldjaaDoorJ3
import Derived.Test.YtdelekkbkpldjaaDoorMAllc
/- Words: a map keyed by kinds of states. -/
namespace Go.Proofs.YtdelekkbkpldjaaDoor
open Go.RowKit Go.Shelf
open Go.ChangeMaps (setBlock heap_setBlock_same heap_setBlock_other)
open Go.WideMaps (KeyLaw)
open Go.WideElems (entry_then_store)

theorem Tryd.row96 : (96 : TypeId) < Tryd.prog.types.size := of_decide_eq_true (by kernel_rfl)
theorem Tryd.wide89 : (match Tryd.prog.underlying 96 with | some (.array _ _) | some (.struct _) => true | _ => false) = true := by kernel_rfl
theorem Tryd.key96 : Tryd.prog.keyTypeAt 2 96 = true := by kernel_rfl
set_option maxRecDepth 10000 in
theorem Tryd.klaw89 : KeyLaw Tryd.prog 96 := deep_law_laid Tryd.laidOut (m := 2) (by omega) Tryd.row96 Tryd.key96 Tryd.wide89
theorem Tryd.law96 : Maps.Keyed Tryd.prog 96 := Maps.Keyed.of_law Tryd.klaw89
/- a kind as a value -/
abbrev kV (p : Int × Int) : Value := .agg #[.int .i64 p.1, .int .i64 p.2]
def isKind (p : Int × Int) : Prop := (-12 ≤ p.1 ∧ p.1 ≤ 12) ∧ 0 ≤ p.2 ∧ p.2 ≤ 40
theorem kKeys_all : ((List.range 25).all fun a => (List.range 41).all fun s => (keyOf Tryd.prog 96 (kV ((a : Int) - 12, (s : Int)))).isSome) = true := by kernel_rfl
theorem kKey {p : Int × Int} (h : isKind p) : ∃ l, keyOf Tryd.prog 96 (kV p) = some l := by
  obtain ⟨⟨h1, h2⟩, h3, h4⟩ := h
  have := List.all_eq_true.1 (List.all_eq_true.1 kKeys_all (p.1 + 12).toNat (List.mem_range.2 (by omega))) p.2.toNat (List.mem_range.2 (by omega))
  rw [show (((p.1 + 12).toNat : Nat) : Int) - 12 = p.1 by omega, show ((p.2.toNat : Nat) : Int) = p.2 by omega] at this
  exact Option.isSome_iff_exists.1 this
theorem kV_inj {p q : Int × Int} (h : kV p = kV q) : p = q := by
  obtain ⟨a, b⟩ := p
  obtain ⟨c, d⟩ := q
  simp only [kV, Value.agg.injEq, Array.mk.injEq, List.cons.injEq, Value.int.injEq, true_and, and_true] at h
  rw [h.1, h.2]
def kcP (p : Int × Int) : Int := Kn.kc p.1 p.2
theorem kcP_inj {p q : Int × Int} (h : isKind p) (k : isKind q) (e : kcP p = kcP q) : p = q := by
  obtain ⟨⟨h1, h2⟩, h3, h4⟩ := h
  obtain ⟨⟨k1, k2⟩, k3, k4⟩ := k
  unfold kcP Kn.kc at e
  exact Prod.ext (by omega) (by omega)
/- a map that counts kinds: it reads as the list l of their codes -/
structure KD (D : DataW Unit) (l : List Pl.T) : Prop where
  isMap : Maps.IsMap D
  val : ∀ p k, isKind p → keyOf Tryd.prog 96 (kV p) = some k → D.atKey k (.lit (.int .i64 0)) = .lit (.int .i64 (Pl.co l (kcP p)))
  key : ∀ k, Maps.has D k = true → ∃ p, isKind p ∧ keyOf Tryd.prog 96 (kV p) = some k ∧ ∃ t ∈ l, t.1 = kcP p
def KMap (W : World) (mb n : Nat) (l : List Pl.T) : Prop := ∃ D : DataW Unit, W.ownsMap Tryd.prog 96 (plainElem Tryd.prog 3) mb n D ∧ KD D l
theorem KMap.fr {S : Nat → Prop} {W W' : World} {mb n : Nat} {l : List Pl.T} (h : KMap W mb n l) (hf : Fr S W W') (hs : ¬ S mb) : KMap W' mb n l := by
  obtain ⟨D, ⟨es, ck, hb, r⟩, h1⟩ := h
  exact ⟨D, ⟨es, ck, (hf.block mb (Array.getElem?_eq_some_iff.1 hb).1 hs).trans hb, r⟩, h1⟩
theorem KMap.lt {W : World} {mb n : Nat} {l : List Pl.T} (h : KMap W mb n l) : mb < W.heap.size := by
  obtain ⟨D, ho, _⟩ := h; exact ho.lt
end Go.Proofs.YtdelekkbkpldjaaDoor

/- Words for the bracket: powers in a row; maps of few exponents. -/
namespace Go.Proofs.YtdelekkbkpldjaaDoor
open Go.RowKit

theorem ints_few {N : Nat} : ∀ {l : List Int}, l.Nodup → (∀ x ∈ l, -(N : Int) ≤ x ∧ x ≤ N) → l.length ≤ 2 * N + 1 := by
  intro l hd hl
  have h1 : (l.map fun x : Int => (x + (N : Int)).toNat).Nodup := by
    rw [List.nodup_iff_pairwise_ne, List.pairwise_map]
    rw [List.nodup_iff_pairwise_ne] at hd
    refine List.Pairwise.imp_of_mem ?_ hd
    intro a b ha hb hne e
    have := hl a ha
    have := hl b hb
    exact hne (by omega)
  have := Kn.nodup_le h1 (m := List.range (2 * N + 1)) (fun x hx => by
    obtain ⟨y, hy, rfl⟩ := List.mem_map.1 hx
    have := hl y hy
    exact List.mem_range.2 (by omega))
  simpa using this
theorem Wk.few {w : World} {v : Value} {l : List Pl.T} {n N : Nat} (h : Wk w v l n) (he : ∀ t ∈ l, -(N : Int) ≤ t.1 ∧ t.1 ≤ N) : Wk w v l (2 * N + 1) := by
  obtain ⟨b, D, rfl, ho, hd⟩ := h
  obtain ⟨k1, k2, k3⟩ := keys_facts ho
  have h1 := ints_few k1 (N := N) fun x hx => by
    obtain ⟨t, ht, rfl⟩ := hd.key x ((k2 x).1 hx)
    exact he t ht
  refine ⟨b, D, rfl, ?_, hd⟩
  rw [k3] at h1
  obtain ⟨es, clock, hb, hf, hn, rfl⟩ := ho
  refine ⟨es, clock, hb, hf, ?_, rfl⟩
  rw [Maps.size_eq, length_sorted] at h1
  simpa using h1
abbrev PwR (w : World) (v : Value) (k : Nat) : Prop := Wk w v (Kn.pw k) (4 * k + 1)
abbrev PwAt (base : Nat) (w : World) (v : Value) (m : Nat) : Prop := Rows PwR base 64 w v (List.range m)
theorem PwAt.new {base : Nat} {w w' : World} {v : Value} {m : Nat} (h : PwAt base w v m) (hf : New w w') : PwAt base w' v m := Rows.new h hf fun _ _ x => New.wk hf x
theorem PwAt.at {base : Nat} {w : World} {v : Value} {m : Nat} (h : PwAt base w v m) {i : Nat} (hi : i < m) : ∃ g c b, v = .slice (some ⟨g, 0, none⟩) m c ∧ w.cell? ⟨g, i, none⟩ = some (.map (some b)) ∧ Wk w (.map (some b)) (Kn.pw i) (4 * i + 1) := by
  obtain ⟨vs, h1, h2⟩ := h
  have hl : vs.length = m := by rw [h2.len, List.length_range]
  rw [hl] at h1
  obtain ⟨a, c, rfl, _, h3⟩ := own_shape h1
  obtain ⟨g, rfl, _, h4⟩ := h3 (by omega)
  have h5 := h2.at_ i (by omega) (by simpa using hi)
  rw [List.getElem_range] at h5
  obtain ⟨b, D, e, r⟩ := h5
  refine ⟨g, c, b, rfl, ?_, ⟨b, D, rfl, r⟩⟩
  rw [h4 i (by omega), e]
theorem wrap_all : ((List.range 17).all fun n => decide (wrap64 (2 ^ n) = ((2 ^ n : Nat) : Int))) = true := by decide +kernel
end Go.Proofs.YtdelekkbkpldjaaDoor

/- Words for the bracket's second half: a range over kinds; the powers' row growing. -/
namespace Go.Proofs.YtdelekkbkpldjaaDoor
open Go.RowKit
open Go.Maps (Keyed)

theorem wpList_insert_own {H : Type} {P : Program} (w : World) {ops : Array Oper} {rest : List Oper} {o : Oper} {a : Act} {Q : Exit → Act → World → Prop}
    (hg : o.guard = none) (m x v : Operand) (t : TypeId) (hop : o.op = Op.insert t m x v)
    (k e : TypeId) (K : Keyed P k) (ht : P.underlying t = some (.map k e)) (R : Value → Option (DataW H × List MemPlace)) (b n : Nat) (D : DataW H)
    (hm : a.eval m = .map (some b)) (hown : w.ownsMap P k R b n D) (hn : n < maxLen) (key val : Value) (kl : Lit) (hx : a.eval x = key) (hv : a.eval v = val) (hkey : keyOf P k key = some kl)
    (d : DataW H) (ps : List MemPlace) (hval : R val = some (d, ps))
    (hK : ∀ w', w'.ownsMap P k R b (n + 1) (D.put kl d) → w.grownBy w' (some b) → wpList P ops Q rest (a.put o.dst undef) w') :
    wpList P ops Q (o :: rest) a w := by
  refine wpList_plain hg fun K' hK' => ?_
  obtain ⟨w', hrun, r1, r2⟩ := hown.update K ht hn hkey hval
  unfold Oper.wp
  simp [execOp, hop, hm, hx, hv, hrun, Result.andThen]
  exact hK' _ _ (hK w' r1 r2)
theorem KD.not_has {D : DataW Unit} {l : List Pl.T} (h : KD D l) {p : Int × Int} (hp : isKind p) {k : Lit} (hk : keyOf Tryd.prog 96 (kV p) = some k) (hh : Maps.has D k = false) : Pl.co l (kcP p) = 0 := by
  have h1 := h.val p k hp hk
  rw [Maps.atKey_of_not_has hh] at h1
  exact (Lit.int.inj (DataW.lit.inj h1)).2.symm
/- is a kind with this code still to come? -/
noncomputable def leftC (left : Lit → Bool) (c : Int) : Bool := Kn.tr (∃ p k, isKind p ∧ kcP p = c ∧ keyOf Tryd.prog 96 (kV p) = some k ∧ left k = true)
structure KPart (D : DataW Unit) (l : List Pl.T) (left : Lit → Bool) (done : List Pl.T) : Prop where
  kd : KD D l
  part : Pl.Part l (leftC left) done
  sub : ∀ k, left k = true → Maps.has D k = true
theorem KPart.start {D : DataW Unit} {l : List Pl.T} (h : KD D l) (hk : ∀ t ∈ l, ∃ p, isKind p ∧ kcP p = t.1) : KPart D l (Maps.has D) [] := by
  refine ⟨h, Pl.Part.start fun c hc => ?_, fun _ x => x⟩
  by_cases e : ∃ t ∈ l, t.1 = c
  · obtain ⟨t, ht, rfl⟩ := e
    obtain ⟨p, hp, e1⟩ := hk t ht
    obtain ⟨k, hkk⟩ := kKey hp
    rw [← e1]
    refine h.not_has hp hkk ?_
    cases hh : Maps.has D k with
    | false => rfl
    | true => exact absurd ⟨p, k, hp, e1, hkk, hh⟩ (Kn.tr_false.1 hc)
  · exact Pl.co_none fun t ht e1 => e ⟨t, ht, e1⟩
theorem KPart.step {D : DataW Unit} {l : List Pl.T} {left : Lit → Bool} {done : List Pl.T} (h : KPart D l left done) {p : Int × Int} {kl : Lit} (hp : isKind p) (hk : keyOf Tryd.prog 96 (kV p) = some kl) (hl : left kl = true) (hm : ∃ t ∈ l, t.1 = kcP p) :
    KPart D l (fun z => left z && !z.sameKey kl) (done ++ [(kcP p, Pl.co l (kcP p))]) := by
  refine ⟨h.kd, h.part.step (Kn.tr_iff.2 ⟨p, kl, hp, rfl, hk, hl⟩) (fun c => ?_) rfl hm, fun k x => h.sub k (by simp only [Bool.and_eq_true] at x; exact x.1)⟩
  rw [Bool.eq_iff_iff, Bool.and_eq_true]
  unfold leftC
  rw [Kn.tr_iff, Kn.tr_iff]
  constructor
  · rintro ⟨q, k, hq, rfl, hkq, hlk⟩
    simp only [Bool.and_eq_true, Bool.not_eq_true'] at hlk
    refine ⟨⟨q, k, hq, rfl, hkq, hlk.1⟩, ?_⟩
    simp only [Bool.not_eq_true', decide_eq_false_iff_not]
    intro e
    have := kcP_inj hq hp e
    subst this
    rw [hk] at hkq; cases hkq
    rw [Go.WideAt.sameKey_self (Tryd.law96.key hk)] at hlk
    exact absurd hlk.2 (by decide)
  · rintro ⟨⟨q, k, hq, rfl, hkq, hlk⟩, hne⟩
    simp only [Bool.not_eq_true', decide_eq_false_iff_not] at hne
    refine ⟨q, k, hq, rfl, hkq, ?_⟩
    have ne : ¬ k = kl := fun e' => hne (by
      have hkq' : keyOf Tryd.prog 96 (kV q) = some kl := e' ▸ hkq
      have e2 : q = p := kV_inj (Tryd.law96.inj hkq' hk)
      rw [e2])
    simp only [Bool.and_eq_true, Bool.not_eq_true']
    exact ⟨hlk, Go.Maps.sameKey_ne ne⟩
theorem KPart.all {D : DataW Unit} {l : List Pl.T} {left : Lit → Bool} {done : List Pl.T} (h : KPart D l left done) (hl : ∀ k, left k = false) (f : Int → Int) : Pl.tot done f = Pl.tot l f :=
  Pl.tot_congr (h.part.all' fun e => Kn.tr_false.2 fun ⟨_, k, _, _, _, x⟩ => by rw [hl k] at x; cases x) f
abbrev KRg (W : World) (mb r n : Nat) (D : DataW Unit) (left : Lit → Bool) (cnt : Nat) : Prop := W.ranges Tryd.prog 96 (plainElem Tryd.prog 3) mb r n D left cnt
theorem KRg.fr {S : Nat → Prop} {W W' : World} {mb r n : Nat} {D : DataW Unit} {left : Lit → Bool} {cnt : Nat} (h : KRg W mb r n D left cnt) (hF : Fr S W W') (h1 : ¬ S mb) (h2 : ¬ S r) : KRg W' mb r n D left cnt := by
  have k1 := h.owns.lt
  have k2 := h.lt
  obtain ⟨es, clock, since, seen, c0, hb, F, hs, hD, hr, rest⟩ := h
  exact ⟨es, clock, since, seen, c0, (hF.block mb k1 h1).trans hb, F, hs, hD, (hF.block r k2 h2).trans hr, rest⟩
theorem KRg.new {W W' : World} {mb r n : Nat} {D : DataW Unit} {left : Lit → Bool} {cnt : Nat} (h : KRg W mb r n D left cnt) (hF : New W W') : KRg W' mb r n D left cnt := h.fr hF (fun x => x) (fun x => x)
section
variable {w : World} {ops : Array Oper} {rest : List Oper} {o : Oper} {a : Act} {Q : Exit → Act → World → Prop}
end
/- maps stay what they are -/
theorem Wk.fr {S : Nat → Prop} {w w' : World} {b : Nat} {l : List Pl.T} {n : Nat} (h : Wk w (.map (some b)) l n) (hF : Fr S w w') (hs : ¬ S b) : Wk w' (.map (some b)) l n := by
  obtain ⟨b', D, e, ⟨es, clock, hb, r⟩, hd⟩ := h
  cases e
  exact ⟨b, D, rfl, ⟨es, clock, (hF.block b (Array.getElem?_eq_some_iff.1 hb).1 hs).trans hb, r⟩, hd⟩
theorem Wk.blk {w : World} {v : Value} {l : List Pl.T} {n : Nat} (h : Wk w v l n) : ∃ b es ck, v = .map (some b) ∧ w.heap[b]? = some (.map es ck) := by
  obtain ⟨b, D, rfl, ⟨es, clock, hb, _⟩, _⟩ := h
  exact ⟨b, es, clock, rfl, hb⟩
theorem Wk.mono {w : World} {v : Value} {l : List Pl.T} {n n' : Nat} (h : Wk w v l n) (hn : n ≤ n') : Wk w v l n' := by
  obtain ⟨b, D, rfl, ho, hd⟩ := h
  exact ⟨b, D, rfl, ho.mono hn, hd⟩
/- the sum so far -/
structure BO (done l : List Pl.T) : Prop where
  co : ∀ x, Pl.co l x = Pl.tot done (Kn.phj x)
  exps : ∀ t ∈ l, -(150 : Int) ≤ t.1 ∧ t.1 ≤ 150
  size : Pl.size l ≤ Pl.size done * 536870912
theorem BO.start : BO [] [] := ⟨fun _ => rfl, (fun t h => by cases h), Nat.zero_le _⟩
theorem sh_size (q s : Int) (l : List Pl.T) : Pl.size (sh q s l) = s.natAbs * Pl.size l := by
  induction l with
  | nil => rfl
  | cons t l ih =>
    show Pl.size ((t.1 + q, s * t.2) :: sh q s l) = _
    rw [Pl.size_cons, Pl.size_cons, ih, Nat.mul_add, Int.natAbs_mul]
theorem BO.step {done l : List Pl.T} (h : BO done l) {m1 m2 c : Int} (hk : isKind (m1, m2)) (h1 : 1 ≤ m2) (h30 : m2 ≤ 30) : BO (done ++ [(kcP (m1, m2), c)]) (l ++ sh m1 c (Kn.pw (m2.toNat - 1))) := by
  obtain ⟨⟨a1, a2⟩, a3, a4⟩ := hk
  simp only at a1 a2 a3 a4
  refine ⟨fun x => ?_, fun t ht => ?_, ?_⟩
  · rw [Pl.co_app, Pl.tot_app, h.co, Pl.tot_cons, Pl.tot_nil, sh_co]
    unfold Kn.phj kcP Kn.kc
    simp only
    rw [show (m1 * 64 + m2) % 64 = m2 by omega, show (m1 * 64 + m2) / 64 = m1 by omega]
    omega
  · rcases List.mem_append.1 ht with ht | ht
    · exact h.exps t ht
    · obtain ⟨u, hu, rfl⟩ := List.mem_map.1 ht
      have := Kn.pw_exps _ u hu
      simp only; omega
  · rw [Pl.size_app, Pl.size_app, sh_size, Kn.pw_size, Pl.size_cons, Nat.add_mul]
    have h2 : 2 ^ (m2.toNat - 1) ≤ 2 ^ 29 := Nat.pow_le_pow_right (by decide) (by omega)
    have h3 := Nat.mul_le_mul_left c.natAbs h2
    have h4 := h.size
    have h5 : Pl.size ([] : List Pl.T) = 0 := rfl
    rw [h5]
    simp only
    omega
theorem own_map1 (w : World) (b : Nat) : (w.alloc (.cells #[.map (some b)] 64)).ownsRow w.heap.size 64 1 (.slice (some ⟨w.heap.size, 0, none⟩) 1 1) 1 [.map (some b)] :=
  ⟨rfl, .inr ⟨w.heap.size, 1, #[.map (some b)], rfl, Nat.le_refl _, heap_alloc_new _ _, Nat.le_refl _, by unfold maxLen; omega, rfl, rfl⟩⟩
theorem PwAt.one {w : World} {b base : Nat} (h : Wk w (.map (some b)) [(0, 1)] 1) (hb : base ≤ w.heap.size) : PwAt base (w.alloc (.cells #[.map (some b)] 64)) (.slice (some ⟨w.heap.size, 0, none⟩) 1 1) 1 :=
  ⟨[.map (some b)], own_base (own_map1 w b) hb, ⟨rfl, fun i h1 h2 => by
    obtain rfl : i = 0 := by simpa using h1
    exact New.wk ((Fr.refl _ _).alloc _) h⟩⟩
end Go.Proofs.YtdelekkbkpldjaaDoor
