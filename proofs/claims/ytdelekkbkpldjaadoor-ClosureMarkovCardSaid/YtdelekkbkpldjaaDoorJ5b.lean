/- Words for the bracket's second half: a range over kinds; the powers' row growing. -/
import Derived.Test.YtdelekkbkpldjaaDoorJ5
namespace Go.Proofs.YtdelekkbkpldjaaDoor
open Go.RowKit
open Go.Maps (Keyed)

theorem wpList_insert_own {H : Type} {P : Program} (w : World) {ops : Array Oper} {rest : List Oper} {o : Oper} {a : Act} {Q : Exit → Act → World → Prop}
    (hg : o.guard = none) (m x v : Operand) (t : TypeId) (hop : o.op = Op.insert t m x v)
    (k e : TypeId) (K : Keyed P k) (ht : P.underlying t = some (.map k e)) (R : Value → Option (DataW H × List MemPlace)) (b n : Nat) (D : DataW H)
    (hm : a.eval m = .map (some b)) (hown : w.ownsMap P k R b n D) (hn : n < maxLen) (key val : Value) (kl : Lit) (hx : a.eval x = key) (hv : a.eval v = val) (hkey : keyOf P k key = some kl)
    (d : DataW H) (ps : List MemPlace) (hval : R val = some (d, ps))
    (hK : ∀ w', w'.ownsMap P k R b (n + 1) (D.put kl d) → w.grownBy w' (some b) → wpList P ops Q rest (a.put o.dst undef) w') :
    wpList P ops Q (o :: rest) a w := by
  refine wpList_plain hg fun K' hK' => ?_
  obtain ⟨w', hrun, r1, r2⟩ := hown.update K ht hn hkey hval
  unfold Oper.wp
  simp [execOp, hop, hm, hx, hv, hrun, Result.andThen]
  exact hK' _ _ (hK w' r1 r2)
theorem KD.not_has {D : DataW Unit} {l : List Pl.T} (h : KD D l) {p : Int × Int} (hp : isKind p) {k : Lit} (hk : keyOf Tryd.prog 96 (kV p) = some k) (hh : Maps.has D k = false) : Pl.co l (kcP p) = 0 := by
  have h1 := h.val p k hp hk
  rw [Maps.atKey_of_not_has hh] at h1
  exact (Lit.int.inj (DataW.lit.inj h1)).2.symm
/- is a kind with this code still to come? -/
noncomputable def leftC (left : Lit → Bool) (c : Int) : Bool := Kn.tr (∃ p k, isKind p ∧ kcP p = c ∧ keyOf Tryd.prog 96 (kV p) = some k ∧ left k = true)
structure KPart (D : DataW Unit) (l : List Pl.T) (left : Lit → Bool) (done : List Pl.T) : Prop where
  kd : KD D l
  part : Pl.Part l (leftC left) done
  sub : ∀ k, left k = true → Maps.has D k = true
theorem KPart.start {D : DataW Unit} {l : List Pl.T} (h : KD D l) (hk : ∀ t ∈ l, ∃ p, isKind p ∧ kcP p = t.1) : KPart D l (Maps.has D) [] := by
  refine ⟨h, Pl.Part.start fun c hc => ?_, fun _ x => x⟩
  by_cases e : ∃ t ∈ l, t.1 = c
  · obtain ⟨t, ht, rfl⟩ := e
    obtain ⟨p, hp, e1⟩ := hk t ht
    obtain ⟨k, hkk⟩ := kKey hp
    rw [← e1]
    refine h.not_has hp hkk ?_
    cases hh : Maps.has D k with
    | false => rfl
    | true => exact absurd ⟨p, k, hp, e1, hkk, hh⟩ (Kn.tr_false.1 hc)
  · exact Pl.co_none fun t ht e1 => e ⟨t, ht, e1⟩
theorem KPart.step {D : DataW Unit} {l : List Pl.T} {left : Lit → Bool} {done : List Pl.T} (h : KPart D l left done) {p : Int × Int} {kl : Lit} (hp : isKind p) (hk : keyOf Tryd.prog 96 (kV p) = some kl) (hl : left kl = true) (hm : ∃ t ∈ l, t.1 = kcP p) :
    KPart D l (fun z => left z && !z.sameKey kl) (done ++ [(kcP p, Pl.co l (kcP p))]) := by
  refine ⟨h.kd, h.part.step (Kn.tr_iff.2 ⟨p, kl, hp, rfl, hk, hl⟩) (fun c => ?_) rfl hm, fun k x => h.sub k (by simp only [Bool.and_eq_true] at x; exact x.1)⟩
  rw [Bool.eq_iff_iff, Bool.and_eq_true]
  unfold leftC
  rw [Kn.tr_iff, Kn.tr_iff]
  constructor
  · rintro ⟨q, k, hq, rfl, hkq, hlk⟩
    simp only [Bool.and_eq_true, Bool.not_eq_true'] at hlk
    refine ⟨⟨q, k, hq, rfl, hkq, hlk.1⟩, ?_⟩
    simp only [Bool.not_eq_true', decide_eq_false_iff_not]
    intro e
    have := kcP_inj hq hp e
    subst this
    rw [hk] at hkq; cases hkq
    rw [Go.WideAt.sameKey_self (Tryd.law96.key hk)] at hlk
    exact absurd hlk.2 (by decide)
  · rintro ⟨⟨q, k, hq, rfl, hkq, hlk⟩, hne⟩
    simp only [Bool.not_eq_true', decide_eq_false_iff_not] at hne
    refine ⟨q, k, hq, rfl, hkq, ?_⟩
    have ne : ¬ k = kl := fun e' => hne (by
      have hkq' : keyOf Tryd.prog 96 (kV q) = some kl := e' ▸ hkq
      have e2 : q = p := kV_inj (Tryd.law96.inj hkq' hk)
      rw [e2])
    simp only [Bool.and_eq_true, Bool.not_eq_true']
    exact ⟨hlk, Go.Maps.sameKey_ne ne⟩
theorem KPart.all {D : DataW Unit} {l : List Pl.T} {left : Lit → Bool} {done : List Pl.T} (h : KPart D l left done) (hl : ∀ k, left k = false) (f : Int → Int) : Pl.tot done f = Pl.tot l f :=
  Pl.tot_congr (h.part.all' fun e => Kn.tr_false.2 fun ⟨_, k, _, _, _, x⟩ => by rw [hl k] at x; cases x) f
abbrev KRg (W : World) (mb r n : Nat) (D : DataW Unit) (left : Lit → Bool) (cnt : Nat) : Prop := W.ranges Tryd.prog 96 (plainElem Tryd.prog 3) mb r n D left cnt
theorem KRg.fr {S : Nat → Prop} {W W' : World} {mb r n : Nat} {D : DataW Unit} {left : Lit → Bool} {cnt : Nat} (h : KRg W mb r n D left cnt) (hF : Fr S W W') (h1 : ¬ S mb) (h2 : ¬ S r) : KRg W' mb r n D left cnt := by
  have k1 := h.owns.lt
  have k2 := h.lt
  obtain ⟨es, clock, since, seen, c0, hb, F, hs, hD, hr, rest⟩ := h
  exact ⟨es, clock, since, seen, c0, (hF.block mb k1 h1).trans hb, F, hs, hD, (hF.block r k2 h2).trans hr, rest⟩
theorem KRg.new {W W' : World} {mb r n : Nat} {D : DataW Unit} {left : Lit → Bool} {cnt : Nat} (h : KRg W mb r n D left cnt) (hF : New W W') : KRg W' mb r n D left cnt := h.fr hF (fun x => x) (fun x => x)
section
variable {w : World} {ops : Array Oper} {rest : List Oper} {o : Oper} {a : Act} {Q : Exit → Act → World → Prop}
/-- THE STEP, in kinds. -/
theorem wpList_next_kind (hg : o.guard = none) (it : Operand) (hop : o.op = Op.next it false) (mb r n : Nat) (D : DataW Unit) (l : List Pl.T) (left : Lit → Bool) (cnt : Nat) (done : List Pl.T)
    (hit : a.eval it = .pointer (some ⟨r, 0, none⟩)) (h : KRg w mb r n D left cnt) (hd : KPart D l left done)
    (hDone : (∀ kl, left kl = false) → wpList Tryd.prog ops Q rest (a.put o.dst (.tuple #[.bool false])) w)
    (hMore : ∀ (m1 m2 c : Int) (kl : Lit) (w' : World) (cnt' : Nat), isKind (m1, m2) → c = Pl.co l (kcP (m1, m2)) → KRg w' mb r n D (fun z => left z && !z.sameKey kl) cnt' → cnt' < cnt →
      KPart D l (fun z => left z && !z.sameKey kl) (done ++ [(kcP (m1, m2), c)]) →
      Fr (fun k => k = r) w w' → (Instr.entry (.pointer (some ⟨r, 0, none⟩))).run Tryd.prog w' = .ok (.tuple #[.agg #[.int .i64 m1, .int .i64 m2], .int .i64 c]) w' →
      wpList Tryd.prog ops Q rest (a.put o.dst (.tuple #[.bool true, .agg #[.int .i64 m1, .int .i64 m2], .int .i64 c])) w') :
    wpList Tryd.prog ops Q (o :: rest) a w := by
  refine wpList_next_ranges w hg it hop 96 Tryd.law96 (plainElem Tryd.prog 3) id id (fun key _ _ => ⟨key, rfl⟩) (fun v _ _ => ⟨v, rfl⟩) mb r n D left cnt hit h (fun _ hl => hDone hl) ?_
  intro x c kl y w' cnt' hk hl hR hat hrg hlt hgr _ hen
  obtain ⟨⟨m1, m2⟩, hp, hkp, hm⟩ := hd.kd.key kl (hd.sub kl hl)
  have ex : x = kV (m1, m2) := Tryd.law96.inj hk hkp
  obtain ⟨cc, ec, ey, _⟩ := plainElem_int_inv Tryd.underlying3 hR
  have e1 := hat (.lit (.int .i64 0))
  rw [hd.kd.val _ kl hp hkp, ey] at e1
  have e2 : Pl.co l (kcP (m1, m2)) = cc := (Lit.int.inj (DataW.lit.inj e1)).2
  have ec' : c = .int .i64 (Pl.co l (kcP (m1, m2))) := by rw [e2]; exact ec
  subst ex ec'
  exact hMore m1 m2 _ kl w' cnt' hp rfl hrg hlt (hd.step hp hkp hl hm) ⟨hgr.os, hgr.tape, hgr.output, hgr.size, fun i hi hne => hgr.block i hi (fun e => hne (Option.some.inj e))⟩ hen
end
/- maps stay what they are -/
theorem Wk.fr {S : Nat → Prop} {w w' : World} {b : Nat} {l : List Pl.T} {n : Nat} (h : Wk w (.map (some b)) l n) (hF : Fr S w w') (hs : ¬ S b) : Wk w' (.map (some b)) l n := by
  obtain ⟨b', D, e, ⟨es, clock, hb, r⟩, hd⟩ := h
  cases e
  exact ⟨b, D, rfl, ⟨es, clock, (hF.block b (Array.getElem?_eq_some_iff.1 hb).1 hs).trans hb, r⟩, hd⟩
theorem Wk.blk {w : World} {v : Value} {l : List Pl.T} {n : Nat} (h : Wk w v l n) : ∃ b es ck, v = .map (some b) ∧ w.heap[b]? = some (.map es ck) := by
  obtain ⟨b, D, rfl, ⟨es, clock, hb, _⟩, _⟩ := h
  exact ⟨b, es, clock, rfl, hb⟩
theorem Wk.mono {w : World} {v : Value} {l : List Pl.T} {n n' : Nat} (h : Wk w v l n) (hn : n ≤ n') : Wk w v l n' := by
  obtain ⟨b, D, rfl, ho, hd⟩ := h
  exact ⟨b, D, rfl, ho.mono hn, hd⟩
/- a row of cells grows: maps stay -/
theorem Wk.grown {base e sz m : Nat} {xs : List Value} {vr : Value} {w5 w7 : World} {o : Obj} {v : Value} {l : List Pl.T} {n : Nat} (h : Wk w5 v l n) (hrow : w5.ownsRow base e sz vr m xs) (hg : (w5.alloc o).grownBy w7 vr.ownBlock) : Wk w7 v l n := by
  obtain ⟨b, es, ck, rfl, hb⟩ := h.blk
  have hF : Fr (fun k => vr.ownBlock = some k) w5 w7 := ((Fr.refl _ w5).alloc o).grown hg fun k ek => .inl ek
  refine h.fr hF fun e' => own_not_map hrow hb b e' rfl
theorem PwAt.snoc {base m : Nat} {w5 w7 : World} {o : Obj} {vs : List Value} {v v' x : Value} (h1 : w5.ownsRow base 64 1 v m vs) (h2 : Els (PwR w5) vs (List.range m)) (hx : Wk w5 x (Kn.pw m) (4 * m + 1)) (hown : w7.ownsRow base 64 1 v' (m + 1) (vs ++ [x])) (hg : (w5.alloc o).grownBy w7 v.ownBlock) : PwAt base w7 v' (m + 1) := by
  have hl : vs.length = m := by rw [h2.len, List.length_range]
  refine ⟨vs ++ [x], by rw [List.length_append, hl]; exact hown, ?_⟩
  rw [List.range_succ]
  exact Els.snoc (h2.mono fun v k hv => hv.grown h1 hg) (hx.grown h1 hg)
theorem one_map (b : Nat) : ∀ u ∈ [Value.map (some b)], u.oneCell' = true := by simp [Value.oneCell']
theorem kinds_kind {X : List Kn.Cr} {L : Nat} (h12 : X.length ≤ 12) (hL : 2 * X.length + L ≤ 40) (k : Nat) : ∀ t ∈ Kn.kindsTo X L k, ∃ p, isKind p ∧ kcP p = t.1 := by
  intro t ht
  obtain ⟨st, _, rfl⟩ := List.mem_map.1 ht
  exact ⟨_, kindI_is h12 hL st, rfl⟩
/- the sum so far -/
structure BO (done l : List Pl.T) : Prop where
  co : ∀ x, Pl.co l x = Pl.tot done (Kn.phj x)
  exps : ∀ t ∈ l, -(150 : Int) ≤ t.1 ∧ t.1 ≤ 150
  size : Pl.size l ≤ Pl.size done * 536870912
theorem BO.start : BO [] [] := ⟨fun _ => rfl, (fun t h => by cases h), Nat.zero_le _⟩
theorem sh_size (q s : Int) (l : List Pl.T) : Pl.size (sh q s l) = s.natAbs * Pl.size l := by
  induction l with
  | nil => rfl
  | cons t l ih =>
    show Pl.size ((t.1 + q, s * t.2) :: sh q s l) = _
    rw [Pl.size_cons, Pl.size_cons, ih, Nat.mul_add, Int.natAbs_mul]
theorem BO.step {done l : List Pl.T} (h : BO done l) {m1 m2 c : Int} (hk : isKind (m1, m2)) (h1 : 1 ≤ m2) (h30 : m2 ≤ 30) : BO (done ++ [(kcP (m1, m2), c)]) (l ++ sh m1 c (Kn.pw (m2.toNat - 1))) := by
  obtain ⟨⟨a1, a2⟩, a3, a4⟩ := hk
  simp only at a1 a2 a3 a4
  refine ⟨fun x => ?_, fun t ht => ?_, ?_⟩
  · rw [Pl.co_app, Pl.tot_app, h.co, Pl.tot_cons, Pl.tot_nil, sh_co]
    unfold Kn.phj kcP Kn.kc
    simp only
    rw [show (m1 * 64 + m2) % 64 = m2 by omega, show (m1 * 64 + m2) / 64 = m1 by omega]
    omega
  · rcases List.mem_append.1 ht with ht | ht
    · exact h.exps t ht
    · obtain ⟨u, hu, rfl⟩ := List.mem_map.1 ht
      have := Kn.pw_exps _ u hu
      simp only; omega
  · rw [Pl.size_app, Pl.size_app, sh_size, Kn.pw_size, Pl.size_cons, Nat.add_mul]
    have h2 : 2 ^ (m2.toNat - 1) ≤ 2 ^ 29 := Nat.pow_le_pow_right (by decide) (by omega)
    have h3 := Nat.mul_le_mul_left c.natAbs h2
    have h4 := h.size
    have h5 : Pl.size ([] : List Pl.T) = 0 := rfl
    rw [h5]
    simp only
    omega
theorem KRg.iter {W : World} {mb r n : Nat} {D : DataW Unit} {left : Lit → Bool} {cnt : Nat} (h : KRg W mb r n D left cnt) : ∃ o a sn c, W.heap[r]? = some (.mapIter o a sn c) := by
  obtain ⟨es, clock, since, seen, c0, _, _, _, _, hr, _⟩ := h
  exact ⟨_, _, _, _, hr⟩
theorem own_not_iter {W : World} {base e sz n r : Nat} {v : Value} {xs : List Value} {o : Option Nat} {a c : Nat} {sn : Array Nat} (h : W.ownsRow base e sz v n xs) (hm : W.heap[r]? = some (.mapIter o a sn c)) : ∀ k, v.ownBlock = some k → ¬ k = r := by
  intro k hk e'
  subst e'
  obtain ⟨o, ho, hc⟩ := own_cells h k hk
  rw [hm] at ho
  cases ho; cases hc
theorem Wk.turn {w w' : World} {v : Value} {l : List Pl.T} {n r : Nat} {o : Option Nat} {a c : Nat} {sn : Array Nat} (h : Wk w v l n) (hF : Fr (fun k => k = r) w w') (hr : w.heap[r]? = some (.mapIter o a sn c)) : Wk w' v l n := by
  obtain ⟨b, es, ck, rfl, hb⟩ := h.blk
  exact h.fr hF fun e => by subst e; rw [hb] at hr; cases hr
theorem PwAt.turn {base m : Nat} {w w' : World} {v : Value} {r : Nat} {o : Option Nat} {a c : Nat} {sn : Array Nat} (h : PwAt base w v m) (hF : Fr (fun k => k = r) w w') (hr : w.heap[r]? = some (.mapIter o a sn c)) : PwAt base w' v m := by
  obtain ⟨vs, h1, h2⟩ := h
  exact ⟨vs, hF.owns h1 (own_not_iter h1 hr), h2.mono fun _ _ x => x.turn hF hr⟩
theorem KRg.grown {base e sz m : Nat} {xs : List Value} {vr : Value} {w5 w7 : World} {o : Obj} {mb r n : Nat} {D : DataW Unit} {left : Lit → Bool} {cnt : Nat} (h : KRg w5 mb r n D left cnt) (hrow : w5.ownsRow base e sz vr m xs) (hg : (w5.alloc o).grownBy w7 vr.ownBlock) : KRg w7 mb r n D left cnt := by
  have hF : Fr (fun k => vr.ownBlock = some k) w5 w7 := ((Fr.refl _ w5).alloc o).grown hg fun k ek => .inl ek
  obtain ⟨o', a, sn, c, hr⟩ := h.iter
  obtain ⟨es, ck, hb, _⟩ := h.owns
  exact h.fr hF (fun e' => own_not_map hrow hb mb e' rfl) (fun e' => own_not_iter hrow hr r e' rfl)
theorem own89 {w w' : World} {mb n : Nat} {D : DataW Unit} (h : w.ownsMap Tryd.prog 96 (plainElem Tryd.prog 3) mb n D) (hF : New w w') : w'.ownsMap Tryd.prog 96 (plainElem Tryd.prog 3) mb n D := by
  obtain ⟨es, ck, hb, r⟩ := h
  exact ⟨es, ck, (hF.block mb (Array.getElem?_eq_some_iff.1 hb).1 (fun x => x)).trans hb, r⟩
theorem own_map1 (w : World) (b : Nat) : (w.alloc (.cells #[.map (some b)] 64)).ownsRow w.heap.size 64 1 (.slice (some ⟨w.heap.size, 0, none⟩) 1 1) 1 [.map (some b)] :=
  ⟨rfl, .inr ⟨w.heap.size, 1, #[.map (some b)], rfl, Nat.le_refl _, heap_alloc_new _ _, Nat.le_refl _, by unfold maxLen; omega, rfl, rfl⟩⟩
theorem PwAt.one {w : World} {b base : Nat} (h : Wk w (.map (some b)) [(0, 1)] 1) (hb : base ≤ w.heap.size) : PwAt base (w.alloc (.cells #[.map (some b)] 64)) (.slice (some ⟨w.heap.size, 0, none⟩) 1 1) 1 :=
  ⟨[.map (some b)], own_base (own_map1 w b) hb, ⟨rfl, fun i h1 h2 => by
    obtain rfl : i = 0 := by simpa using h1
    exact New.wk ((Fr.refl _ _).alloc _) h⟩⟩
theorem rings_of {X : List Kn.Cr} (hX : Kn.Ok X) {L k : Nat} {m1 m2 : Int} (h12 : X.length ≤ 12) (hL : 2 * X.length + L ≤ 30) (h0 : 0 < X.length + L) (hk : isKind (m1, m2)) (h : ∃ u ∈ Kn.kindsTo X L k, u.1 = kcP (m1, m2)) : 1 ≤ m2 ∧ m2 ≤ 30 := by
  obtain ⟨u, hu, e⟩ := h
  obtain ⟨st, _, rfl⟩ := List.mem_map.1 hu
  have e2 := kcP_inj (kindI_is (L := L) h12 (by omega) st) hk e
  have h1 := hX.rings_pos L st h0
  have h2 : Kn.ringsN X L st ≤ 30 := by unfold Kn.ringsN; omega
  have e3 : (Kn.ringsN X L st : Int) = m2 := congrArg Prod.snd e2
  omega
def slLen : Value → Nat
  | .slice _ n _ => n
  | _ => 0
theorem pw_ex {k : Nat} (h : k ≤ 1000) : Exps 1000000000 (Kn.pw k) := fun t ht => by have := Kn.pw_exps k t ht; omega
theorem two_ex : Exps 1000000000 Kn.two := fun t ht => by
  simp only [Kn.two, List.mem_cons, List.not_mem_nil, or_false] at ht
  rcases ht with rfl | rfl <;> simp
theorem pw_two_size {q : Nat} (h : q ≤ 29) : 2 ^ q * Pl.size Kn.two ≤ 1000000000000000000 := by
  have h2 : 2 ^ q ≤ 2 ^ 29 := Nat.pow_le_pow_right (by decide) h
  have h3 : Pl.size Kn.two = 2 := rfl
  rw [h3]; omega
theorem sh_ex {q s : Int} {k : Nat} (hk : k ≤ 1000) (hq : -1000 ≤ q ∧ q ≤ 1000) : Exps 1000000000 (sh q s (Kn.pw k)) := fun t ht => by
  obtain ⟨u, hu, rfl⟩ := List.mem_map.1 ht
  have := Kn.pw_exps k u hu
  simp only; omega
theorem bo_size {D : DataW Unit} {K l : List Pl.T} {left' : Lit → Bool} {done : List Pl.T} {t : Pl.T} {m1 c : Int} {j : Nat} (h2 : BO (done ++ [t]) (l ++ sh m1 c (Kn.pw j))) (hk : KPart D K left' (done ++ [t])) (hs : Pl.size K ≤ 4096) : Pl.size l + Pl.size (sh m1 c (Kn.pw j)) ≤ 1000000000000000000 := by
  have h3 := h2.size
  have h4 := hk.part.size_le
  rw [Pl.size_app] at h3
  omega
end Go.Proofs.YtdelekkbkpldjaaDoor
