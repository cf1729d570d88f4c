/- The law of the mirror image and of sums, for lists in form: plain mathematics. -/
import Derived.Test.YtlicglicfijelaaS2
import Derived.Test.YtlicglicfijelaaK4
import Derived.Test.YtlicglicfijelaaM45
namespace Go.Proofs.Ytlicglicfijelaa
open Go.RowKit
open Kn (E2 L2 cf tt szL exB ofL F2 sumT insT)

/- a list in form with the numbers of what the program reckons -/
structure HomF (X : List Kn.Cr) (L : Nat) (l : L2) : Prop where
  form : F2 l
  num : ∀ a, cf l a = cf (ofL 100 X L) a
theorem HomF.uniq {X : List Kn.Cr} {L : Nat} {l m : L2} (h : HomF X L l) (k : HomF X L m) : l = m := h.form.uniq k.form fun a => by rw [h.num, k.num]
structure Gd (X : List Kn.Cr) (L : Nat) : Prop where
  ok : Kn.Ok X
  pl : Kn.planarB X = true
  len : X.length ≤ 8
  some : 0 < X.length + L
  few : L ≤ 16
theorem Gd.strands {X : List Kn.Cr} {L : Nat} (h : Gd X L) : (Kn.strandsL X).length ≤ 2 * X.length ∧ 1 ≤ (Kn.strandsL X).length + L := by
  obtain ⟨h1, h2⟩ := strands_few h.ok
  have := h.some
  refine ⟨h1, ?_⟩
  by_cases c : X.length = 0
  · omega
  · have := h2 (by omega); omega
theorem HomF.hv {X : List Kn.Cr} {L : Nat} {l : L2} (h : HomF X L l) (g : Gd X L) (a : E2) : cf l a = (Kn.hv Kn.K2.toCA g.ok L).1 a := by
  rw [h.num]
  refine Kn.ofL_hv 100 g.ok L g.pl g.strands.2 ?_ a
  have h1 := g.ok.bX_le
  have h2 : X.length * X.length ≤ 8 * 8 := Nat.mul_le_mul g.len g.len
  have := g.len
  omega
/- how great, how far, how long -/
theorem HomF.sz {X : List Kn.Cr} {L : Nat} {l : L2} (h : HomF X L l) (g : Gd X L) : szL l ≤ Kn.sN X.length * 2 ^ (3 * X.length + L) := by
  refine Nat.le_trans (h.form.sz h.num) (Nat.le_trans (Kn.ofL_sz 100 g.ok L).1 (Nat.mul_le_mul (Kn.lv_le g.ok.bX_le) (Nat.pow_le_pow_right (by omega) ?_)))
  have := g.strands.1
  omega
theorem HomF.ex {X : List Kn.Cr} {L : Nat} {l : L2} (h : HomF X L l) (g : Gd X L) : exB 282 l := by
  refine h.form.ex h.num ((Kn.ofL_sz 100 g.ok L).2.mono ?_)
  have := g.strands.1
  have := g.len
  have := g.few
  omega
theorem F2.few {R : Nat} {l : L2} (h : F2 l) (he : exB R l) : l.length ≤ (2 * R + 1) * (2 * R + 1) := by
  have h1 : (l.map Prod.fst).Nodup := by
    rw [List.nodup_iff_pairwise_ne, List.pairwise_map]
    refine h.ord.imp fun {a b} hab e => ?_
    rw [e] at hab
    exact Kn.lt2_irr _ hab
  have := pows_few h1 fun p hp => by
    obtain ⟨t, ht, rfl⟩ := List.mem_map.1 hp
    exact he t ht
  simpa using this
theorem sumT_mem {s : E2 × Int} {d : E2} {c : Int} : ∀ {more l : L2}, s ∈ sumT l more d c → (∃ t ∈ l, s.1 = t.1) ∨ ∃ t ∈ more, s.1 = t.1 + d
  | [], l, h => .inl ⟨s, h, rfl⟩
  | t :: more, l, h => by
    rw [Kn.sumT_cons] at h
    rcases sumT_mem h with ⟨u, hu, e⟩ | ⟨u, hu, e⟩
    · rcases Kn.insT_mem hu with h | h
      · exact .inr ⟨t, by simp, by rw [e, h]⟩
      · exact .inl ⟨u, h, e⟩
    · exact .inr ⟨u, by simp [hu], e⟩
/- the sum of what is moved and multiplied -/
def prodL (p q : L2) : L2 := q.foldl (fun acc t => sumT acc p t.1 t.2) []
theorem prodL_snoc (p q : L2) (t : E2 × Int) : prodL p (q ++ [t]) = sumT (prodL p q) p t.1 t.2 := by unfold prodL; rw [List.foldl_append]; rfl
theorem prodL_F2 (p q : L2) : F2 (prodL p q) := by
  have gen : ∀ (q acc : L2), F2 acc → F2 (q.foldl (fun acc t => sumT acc p t.1 t.2) acc) := by
    intro q
    induction q with
    | nil => exact fun _ h => h
    | cons t q ih => exact fun acc h => ih _ (Kn.sumT_F2 _ _ _ h)
  exact gen q [] .nil
theorem prodL_cf (p q : L2) (a : E2) : cf (prodL p q) a = tt q fun b => cf p (a - b) := by
  have gen : ∀ (q acc : L2), cf (q.foldl (fun acc t => sumT acc p t.1 t.2) acc) a = cf acc a + tt q fun b => cf p (a - b) := by
    intro q
    induction q with
    | nil => intro acc; rw [Kn.tt_nil, Int.add_zero]; rfl
    | cons t q ih => intro acc; rw [List.foldl_cons, ih, Kn.sumT_cf, Kn.tt_cons, Int.add_assoc]
  have := gen q []
  rw [show cf [] a = 0 from rfl, Int.zero_add] at this
  exact this
theorem prodL_sz (p q : L2) : szL (prodL p q) ≤ szL q * szL p := by
  have gen : ∀ (q acc : L2), szL (q.foldl (fun acc t => sumT acc p t.1 t.2) acc) ≤ szL acc + szL q * szL p := by
    intro q
    induction q with
    | nil => intro acc; show szL acc ≤ _; omega
    | cons t q ih =>
      intro acc
      rw [List.foldl_cons]
      have h1 := ih (sumT acc p t.1 t.2)
      have h2 := sumT_sz t.1 t.2 p acc
      rw [Kn.szL_cons, Nat.add_mul]
      omega
  have := gen q []
  rw [show szL [] = 0 from rfl, Nat.zero_add] at this
  exact this
theorem prodL_ex {R R' : Nat} {p q : L2} (hp : exB R p) (hq : exB R' q) : exB (R + R') (prodL p q) := by
  have gen : ∀ (q acc : L2), exB R' q → exB (R + R') acc → exB (R + R') (q.foldl (fun acc t => sumT acc p t.1 t.2) acc) := by
    intro q
    induction q with
    | nil => exact fun _ _ h => h
    | cons t q ih =>
      intro acc hq h
      refine ih _ (fun s hs => hq s (by simp [hs])) fun s hs => ?_
      have ht := hq t (by simp)
      rcases sumT_mem hs with ⟨u, hu, e⟩ | ⟨u, hu, e⟩
      · rw [e]; exact h u hu
      · have := hp u hu
        rw [e]
        show (u.1.1 + t.1.1).natAbs ≤ _ ∧ (u.1.2 + t.1.2).natAbs ≤ _
        omega
  exact gen q [] hq fun _ h => by cases h
theorem szL_take (q : L2) {k : Nat} (hk : k < q.length) : szL (q.take k) + (tmG q k).2.natAbs ≤ szL q := by
  have h1 := Kn.szL_app (q.take k) (q.drop k)
  rw [List.take_append_drop, List.drop_eq_getElem_cons hk, Kn.szL_cons] at h1
  rw [tm_at hk]
  omega
/- what the walk wants of one round -/
theorem prodL_round {p q : L2} {k : Nat} (hk : k < q.length) {M : Nat} (hM : szL q * szL p ≤ M) : szL (prodL p (q.take k)) + (tmG q k).2.natAbs * szL p ≤ M := by
  have h1 := prodL_sz p (q.take k)
  have h2 := Nat.mul_le_mul_right (szL p) (szL_take q hk)
  rw [Nat.add_mul] at h2
  omega
theorem take_snoc {q : L2} {k : Nat} (hk : k < q.length) : q.take (k + 1) = q.take k ++ [tmG q k] := by rw [List.take_succ_eq_append_getElem hk, tm_at hk]
/- all terms turned -/
def turnL (q : L2) : L2 := q.foldl (fun acc t => sumT acc [((-t.1.1, t.1.2), t.2)] (0, 0) (Kn.sgnZ t.1.2)) []
theorem turnL_snoc (q : L2) (t : E2 × Int) : turnL (q ++ [t]) = sumT (turnL q) [((-t.1.1, t.1.2), t.2)] (0, 0) (Kn.sgnZ t.1.2) := by unfold turnL; rw [List.foldl_append]; rfl
theorem turnL_F2 (q : L2) : F2 (turnL q) := by
  have gen : ∀ (q acc : L2), F2 acc → F2 (q.foldl (fun acc t => sumT acc [((-t.1.1, t.1.2), t.2)] (0, 0) (Kn.sgnZ t.1.2)) acc) := by
    intro q
    induction q with
    | nil => exact fun _ h => h
    | cons t q ih => exact fun acc h => ih _ (Kn.sumT_F2 _ _ _ h)
  exact gen q [] .nil
theorem sgnZ_abs (z : Int) : (Kn.sgnZ z).natAbs = 1 := by unfold Kn.sgnZ; split <;> rfl
theorem sgnZ_two (z : Int) : Kn.sgnZ z * Kn.sgnZ z = 1 := by unfold Kn.sgnZ; split <;> rfl
theorem turnL_cf (q : L2) (x z : Int) : cf (turnL q) (x, z) = Kn.sgnZ z * cf q (-x, z) := by
  have gen : ∀ (q acc : L2), cf (q.foldl (fun acc t => sumT acc [((-t.1.1, t.1.2), t.2)] (0, 0) (Kn.sgnZ t.1.2)) acc) (x, z) = cf acc (x, z) + Kn.sgnZ z * cf q (-x, z) := by
    intro q
    induction q with
    | nil => intro acc; show cf acc _ = cf acc _ + _ * 0; omega
    | cons t q ih =>
      intro acc
      have e : ((x, z) : E2) - (0, 0) = (x, z) := Prod.ext (by show x - 0 = x; omega) (by show z - 0 = z; omega)
      have key : Kn.sgnZ t.1.2 * cf [((-t.1.1, t.1.2), t.2)] (((x, z) : E2) - (0, 0)) = Kn.sgnZ z * (if t.1 = (-x, z) then t.2 else 0) := by
        rw [e, Kn.cf_cons, show cf [] (x, z) = 0 from rfl, Int.add_zero]
        obtain ⟨⟨a, b⟩, c⟩ := t
        simp only [Prod.mk.injEq]
        by_cases c1 : a = -x ∧ b = z
        · rw [if_pos c1, if_pos ⟨by omega, c1.2⟩, c1.2]
        · rw [if_neg c1, if_neg fun k => c1 ⟨by omega, k.2⟩, Int.mul_zero, Int.mul_zero]
      rw [List.foldl_cons, ih, Kn.sumT_cf, key, Kn.cf_cons t q, Int.mul_add, Int.add_assoc]
  have := gen q []
  rw [show cf [] (x, z) = 0 from rfl, Int.zero_add] at this
  exact this
theorem turnL_sz (q : L2) : szL (turnL q) ≤ szL q := by
  have gen : ∀ (q acc : L2), szL (q.foldl (fun acc t => sumT acc [((-t.1.1, t.1.2), t.2)] (0, 0) (Kn.sgnZ t.1.2)) acc) ≤ szL acc + szL q := by
    intro q
    induction q with
    | nil => intro acc; show szL acc ≤ _; omega
    | cons t q ih =>
      intro acc
      rw [List.foldl_cons]
      have h1 := ih (sumT acc [((-t.1.1, t.1.2), t.2)] (0, 0) (Kn.sgnZ t.1.2))
      have h2 := sumT_sz (0, 0) (Kn.sgnZ t.1.2) [((-t.1.1, t.1.2), t.2)] acc
      rw [sgnZ_abs, Kn.szL_cons, show szL [] = 0 from rfl] at h2
      rw [Kn.szL_cons]
      simp only at h2
      omega
  have := gen q []
  rw [show szL [] = 0 from rfl, Nat.zero_add] at this
  exact this
/- OF THE MIRROR IMAGE IT IS ITSELF TURNED -/
theorem law_mir {X : List Kn.Cr} {L : Nat} (g : Gd X L) {p q : L2} (hp : HomF X L p) (hq : HomF (Kn.mirL X) L q) : turnL q = p := by
  have len := Kn.mirL_len X
  have g' : Gd (Kn.mirL X) L := ⟨g.ok.mir_ok, by rw [g.ok.mir_planar]; exact g.pl, by rw [len]; exact g.len, by rw [len]; exact g.some, g.few⟩
  refine (turnL_F2 q).uniq hp.form fun ⟨x, z⟩ => ?_
  rw [turnL_cf, hq.hv g', hp.hv g]
  have h1 := g.ok.hv_mir (K := Kn.K2.toCA) g.pl L g.some (φ := Kn.φ2) Kn.φ2_T Kn.φ2_D
  have h2 : (Kn.hv Kn.K2.toCA g'.ok L) = Kn.hv Kn.K2.toCA g.ok.mir_ok L := rfl
  rw [h2, h1, Kn.φ2_is, ← Int.mul_assoc, sgnZ_two, Int.one_mul, Int.neg_neg]
/- OF A SUM IT IS THE PRODUCT -/
theorem law_sum {X Z S : List Kn.Cr} {L L' x y : Nat} (h : Kn.SumOf X Z S x y) (g : Gd X L) (g' : Gd Z L') (hx : Kn.isArc X x) (hy : Kn.isArc Z y) (h8 : X.length + Z.length ≤ 8) (hL : L + L' ≤ 16) {p q r : L2} (hp : HomF X L p) (hq : HomF Z L' q) (hr : HomF S (L + L') r) : prodL p q = r := by
  have g2 : Gd S (L + L') := ⟨h.ok g.ok g'.ok hx hy, h.planar2 g.ok g'.ok hx hy g.pl g'.pl, by rw [h.len]; exact h8, by have := g.some; have := h.len; omega, hL⟩
  refine (prodL_F2 p q).uniq hr.form fun a => ?_
  rw [prodL_cf, hr.hv g2]
  have h1 := h.hv_sum (K := Kn.K2) g.ok g'.ok hx hy g.pl g'.pl L L'
  have h2 : Kn.hv Kn.K2.toCA g2.ok (L + L') = Kn.hv Kn.K2.toCA (h.ok g.ok g'.ok hx hy) (L + L') := rfl
  rw [h2, h1]
  have h3 : (Kn.K2.m (Kn.hv Kn.K2.toCA g.ok L) (Kn.hv Kn.K2.toCA g'.ok L')).1 a = tt q fun b => (Kn.hv Kn.K2.toCA g.ok L).1 (a - b) := Kn.m2_of (fun b => (hq.hv g' b).symm) a
  rw [h3]
  exact Kn.tt_congr fun t _ => hp.hv g _
theorem sN_two {n m : Nat} (h : n + m ≤ 8) : Kn.sN n * Kn.sN m ≤ 109601 := by
  have gen : ∀ n, n < 9 → ∀ m, m < 9 → n + m ≤ 8 → Kn.sN n * Kn.sN m ≤ 109601 := by decide +kernel
  exact gen n (by omega) m (by omega) h
theorem HomF.sz2 {X Z : List Kn.Cr} {L L' : Nat} {p q : L2} (hp : HomF X L p) (hq : HomF Z L' q) (g : Gd X L) (g' : Gd Z L') (h8 : X.length + Z.length ≤ 8) (hL : L + L' ≤ 16) : szL q * szL p ≤ 120508569176408064 := by
  have h1 := Nat.mul_le_mul (hp.sz g) (hq.sz g')
  rw [Nat.mul_mul_mul_comm, ← Nat.pow_add] at h1
  have h2 : 2 ^ (3 * X.length + L + (3 * Z.length + L')) ≤ 2 ^ 40 := Nat.pow_le_pow_right (by omega) (by omega)
  have h3 := Nat.mul_le_mul (sN_two h8) h2
  rw [Nat.mul_comm]
  refine Nat.le_trans h1 (Nat.le_trans h3 (by decide))
theorem HomF.sz1 {X : List Kn.Cr} {L : Nat} {p : L2} (hp : HomF X L p) (g : Gd X L) : szL p ≤ 120508569176408064 := by
  have h1 := hp.sz g
  have h2 : 2 ^ (3 * X.length + L) ≤ 2 ^ 40 := Nat.pow_le_pow_right (by omega) (by have := g.len; have := g.few; omega)
  have h4 := sN_two (n := X.length) (m := 0) (by have := g.len; omega)
  rw [show Kn.sN 0 = 1 from rfl, Nat.mul_one] at h4
  exact Nat.le_trans h1 (Nat.le_trans (Nat.mul_le_mul h4 h2) (by decide))
end Go.Proofs.Ytlicglicfijelaa
