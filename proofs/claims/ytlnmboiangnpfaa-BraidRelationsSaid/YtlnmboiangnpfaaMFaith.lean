/- Plain mathematics: two words have one normal form just if they do the same to the letters of a free group. -/
import Derived.Test.YtlnmboiangnpfaaMComb
namespace Bd

/- ---- counts: where the strand n ends ---- -/
def cnt (m : Int) (w : List Int) : Int := (w.map fun a => if a = m then 1 else if a = -m then -1 else 0).sum
theorem cnt_app (m : Int) (u v : List Int) : cnt m (u ++ v) = cnt m u + cnt m v := by simp [cnt]
theorem cnt_cons (m a : Int) (v : List Int) : cnt m (a :: v) = cnt m [a] + cnt m v := cnt_app m [a] v
theorem cnt_neg {m : Int} (hm : m ≠ 0) (a : Int) : cnt m [-a] = -cnt m [a] := by
  simp only [cnt, List.map_cons, List.map_nil, List.sum_cons, List.sum_nil]
  by_cases h1 : a = m
  · subst h1
    rw [if_neg (by omega), if_pos rfl, if_pos rfl]; omega
  · by_cases h2 : a = -m
    · subst h2
      rw [if_pos (by omega), if_neg (by omega), if_pos rfl]; omega
    · rw [if_neg (by omega), if_neg (by omega), if_neg h1, if_neg h2]; omega
theorem cnt_rinv {m : Int} (hm : m ≠ 0) : ∀ u : List Int, cnt m (rinv u) = -cnt m u
  | [] => rfl
  | a :: u => by rw [rinv_cons, cnt_app, cnt_rinv hm u, cnt_cons m a u, cnt_neg hm]; omega
theorem cnt_red {m : Int} (hm : m ≠ 0) : ∀ u : List Int, cnt m (red u) = cnt m u
  | [] => rfl
  | a :: u => by
    have ih := cnt_red hm u
    show cnt m (push a (red u)) = _
    rw [cnt_cons m a u, ← ih]
    cases red u with
    | nil => simp only [push]; simp [cnt]
    | cons b t =>
      rw [push_cons]
      split
      · next h =>
        have : b = -a := by omega
        subst this
        rw [cnt_cons m (-a) t, cnt_neg hm]; omega
      · rw [cnt_cons]
theorem E.cnt {m : Int} (hm : m ≠ 0) {u v : List Int} (h : E u v) : cnt m u = cnt m v := by
  rw [← cnt_red hm u, ← cnt_red hm v, h]

def sw1 (e : Nat → Int) (x : Int) : Nat → Int := fun j => if x = 0 then e j else if j = x.natAbs then e (x.natAbs + 1) else if j = x.natAbs + 1 then e x.natAbs else e j
def swW (e : Nat → Int) (w : List Int) : Nat → Int := w.foldl sw1 e
theorem cnt_a1 {m : Int} (hm : m ≠ 0) (T : Tup) (x : Int) : (fun j => cnt m (a1 T x j)) = sw1 (fun j => cnt m (T j)) x := by
  funext j
  unfold a1 sw1
  by_cases h0 : x = 0
  · simp only [h0, if_true]
  · simp only [h0, if_false]
    by_cases hx : 0 < x
    · simp only [hx, if_true]
      split
      · rw [cnt_app, cnt_app, cnt_rinv hm]; omega
      · split <;> rfl
    · simp only [hx, if_false]
      split
      · rfl
      · split
        · rw [cnt_app, cnt_app, cnt_rinv hm]; omega
        · rfl
theorem cnt_act {m : Int} (hm : m ≠ 0) (w : List Int) : ∀ T : Tup, (fun j => cnt m (act T w j)) = swW (fun j => cnt m (T j)) w := by
  induction w with
  | nil => exact fun _ => rfl
  | cons x w ih =>
    intro T
    show (fun j => cnt m (act (a1 T x) w j)) = swW (sw1 _ x) w
    rw [ih, cnt_a1 hm]
theorem swW_app (e : Nat → Int) (u v : List Int) : swW e (u ++ v) = swW (swW e u) v := List.foldl_append
theorem sw1_sw1 (e : Nat → Int) (x : Int) : sw1 (sw1 e x) x = e := by
  funext j
  unfold sw1
  by_cases h0 : x = 0
  · simp [h0]
  · simp only [h0, if_false]
    by_cases h1 : j = x.natAbs
    · simp [h1]
    · by_cases h2 : j = x.natAbs + 1
      · simp [h2]
      · simp [h1, h2]
theorem sw1_neg (e : Nat → Int) (x : Int) : sw1 e (-x) = sw1 e x := by
  funext j; unfold sw1; simp
theorem swW_inv : ∀ (u : List Int) (e : Nat → Int), swW (swW e u) (rinv u) = e
  | [], _ => rfl
  | a :: u, e => by
    rw [rinv_cons, swW_app]
    show sw1 (swW (swW (sw1 e a) u) (rinv u)) (-a) = e
    rw [swW_inv u, sw1_neg, sw1_sw1]
theorem swW_wA (n k : Nat) (e : Nat → Int) : swW e (wA n k) = e := by
  unfold wA
  rw [swW_app, swW_app]
  have : ∀ e, swW e [(k : Int), k] = e := fun e => sw1_sw1 e k
  rw [this, swW_inv]
theorem swW_rinv_wA (n k : Nat) (e : Nat → Int) : swW e (rinv (wA n k)) = e := by
  have h := swW_inv (wA n k) e
  rwa [swW_wA] at h
theorem swW_sb {n : Nat} : ∀ {f : List Int} (_ : OkA n f) (e : Nat → Int), swW e (sb (wA n) f) = e
  | [], _, _ => rfl
  | x :: f, h, e => by
    rw [sb_cons, swW_app]
    have hx := h x (by simp)
    have : swW e (ltr (wA n) x) = e := by
      unfold ltr
      split
      · exact swW_wA _ _ _
      · rw [if_pos (by omega)]; exact swW_rinv_wA _ _ _
    rw [this]
    exact swW_sb (fun y hy => h y (by simp [hy])) e
theorem swW_low {n : Nat} : ∀ {w : List Int} (_ : Word (n - 1) w) (e : Nat → Int), swW e w n = e n
  | [], _, _ => rfl
  | x :: w, h, e => by
    show swW (sw1 e x) w n = e n
    rw [swW_low (fun y hy => h y (by simp [hy]))]
    have hx := h x (by simp)
    unfold sw1
    split
    · rfl
    · rw [if_neg (by rcases hx with h | h <;> omega), if_neg (by rcases hx with h | h <;> omega)]
theorem swW_rl {n : Nat} (e : Nat → Int) : ∀ d, d < n → swW e (rl n d) (n - d) = e n
  | 0, _ => rfl
  | d + 1, h => by
    show swW e (rl n d ++ [-((n - 1 - d : Nat) : Int)]) (n - (d + 1)) = e n
    rw [swW_app, ← swW_rl e d (by omega)]
    show sw1 _ (-((n - 1 - d : Nat) : Int)) (n - (d + 1)) = _
    rw [sw1_neg]
    unfold sw1
    rw [if_neg (by omega), if_pos (by omega)]
    congr 1
    omega

/- ---- what the A's do ---- -/
def uOf (n : Nat) (x : Int) : List Int := if 0 < x then [x] else [-(n : Int), x]
def chkA (n : Nat) : Bool := (lets n).all fun k => [(k : Int), -(k : Int)].all fun x =>
  let B := act ini (ltr (wA n) x)
  red (B n) == red (uOf n x ++ [(n : Int)] ++ rinv (uOf n x)) && red (kill n (uOf n x)) == red [x] &&
    (lets n).all fun j => red (kill n (B j)) == red [(j : Int)]
theorem chkA_ok : ns.all chkA = true := by decide +kernel

theorem act_high (w : List Int) : ∀ (T : Tup) (j : Nat), (∀ x ∈ w, x.natAbs + 1 < j) → act T w j = T j := by
  induction w with
  | nil => exact fun _ _ _ => rfl
  | cons x w ih =>
    intro T j h
    show act (a1 T x) w j = T j
    rw [ih _ _ fun y hy => h y (by simp [hy])]
    have := h x (by simp)
    unfold a1
    split
    · rfl
    · split
      · dsimp only
        rw [if_neg (by omega), if_neg (by omega)]
      · dsimp only
        rw [if_neg (by omega), if_neg (by omega)]

theorem rl_abs {n : Nat} : ∀ d, ∀ x ∈ rl n d, x.natAbs < n ∨ x = 0
  | 0, x, h => by cases h
  | d + 1, x, h => by
    rcases List.mem_append.1 h with h | h
    · exact rl_abs d x h
    · simp only [List.mem_singleton] at h
      omega
theorem mem_rinv {x : Int} {u : List Int} (h : x ∈ rinv u) : -x ∈ u := by
  simp only [rinv, List.mem_reverse, List.mem_map] at h
  obtain ⟨y, hy, rfl⟩ := h
  rwa [Int.neg_neg]
theorem wA_abs {n k : Nat} (hk : k < n) : ∀ x ∈ wA n k, x.natAbs < n := by
  intro x hx
  unfold wA at hx
  simp only [List.mem_append] at hx
  rcases hx with (h | h) | h
  · rcases rl_abs _ x h with h | h <;> omega
  · simp only [List.mem_cons, List.not_mem_nil, or_false, or_self] at h; omega
  · rcases rl_abs _ _ (mem_rinv h) with h | h <;> omega
theorem ltr_wA_abs {n : Nat} {x : Int} (h1 : 1 ≤ x.natAbs) (h2 : x.natAbs < n) : ∀ y ∈ ltr (wA n) x, y.natAbs < n := by
  intro y hy
  unfold ltr at hy
  split at hy
  · exact wA_abs (by omega) y hy
  · rw [if_pos (by omega)] at hy
    have := wA_abs (n := n) (k := (-x).toNat) (by omega) _ (mem_rinv hy)
    rwa [Int.natAbs_neg] at this

section
variable {n : Nat} (hn : n ∈ ns)
include hn

theorem ns_le : 2 ≤ n ∧ n ≤ 5 := by
  simp only [ns, List.mem_cons, List.not_mem_nil, or_false] at hn; omega

theorem base {x : Int} (h1 : 1 ≤ x.natAbs) (h2 : x.natAbs < n) :
    E (act ini (ltr (wA n) x) n) (uOf n x ++ [(n : Int)] ++ rinv (uOf n x)) ∧ E (kill n (uOf n x)) [x] ∧ ∀ j ∈ lets n, E (kill n (act ini (ltr (wA n) x) j)) [(j : Int)] := by
  have h := List.all_eq_true.1 (List.all_eq_true.1 (List.all_eq_true.1 chkA_ok n hn) x.natAbs (mem_lets.2 ⟨h1, h2⟩)) x (by simp; omega)
  simp only [Bool.and_eq_true, beq_iff_eq, List.all_eq_true] at h
  exact ⟨h.1.1, h.1.2, h.2⟩

theorem kill_letter {T : Tup} (h1 : ∀ j ∈ lets n, E (kill n (T j)) [(j : Int)]) (h2 : E (kill n (T n)) []) (h3 : ∀ j, n < j → T j = [(j : Int)]) (a : Int) : E (kill n (ltr T a)) (kill n [a]) := by
  have hk : ∀ j : Nat, 1 ≤ j → E (kill n (T j)) (kill n [(j : Int)]) := by
    intro j hj
    rcases Nat.lt_trichotomy j n with h | h | h
    · have e : kill n [(j : Int)] = [(j : Int)] := by
        simp only [kill, List.filter_eq_self, List.mem_singleton, Bool.and_eq_true, bne_iff_ne]
        rintro x rfl; omega
      rw [e]; exact h1 j (mem_lets.2 ⟨hj, h⟩)
    · subst h
      have e : kill j [(j : Int)] = [] := kill_of_all (by simp)
      rw [e]; exact h2
    · rw [h3 j h]; exact .refl _
  unfold ltr
  by_cases h0 : 0 < a
  · rw [if_pos h0]
    have := hk a.toNat (by omega)
    rwa [show ((a.toNat : Nat) : Int) = a from by omega] at this
  · rw [if_neg h0]
    by_cases h4 : a < 0
    · rw [if_pos h4]
      have := (hk (-a).toNat (by omega)).inv
      rw [← kill_rinv, ← kill_rinv, show (((-a).toNat : Nat) : Int) = -a from by omega] at this
      simpa [rinv] using this
    · rw [if_neg h4, show a = 0 from by omega]; exact .refl _
theorem kill_sb {T : Tup} (h1 : ∀ j ∈ lets n, E (kill n (T j)) [(j : Int)]) (h2 : E (kill n (T n)) []) (h3 : ∀ j, n < j → T j = [(j : Int)]) : ∀ w : List Int, E (kill n (sb T w)) (kill n w)
  | [] => .refl _
  | a :: w => by
    rw [sb_cons, kill_app]
    have e : kill n (a :: w) = kill n [a] ++ kill n w := by rw [← kill_app]; rfl
    rw [e]
    exact (kill_letter hn h1 h2 h3 a).app (kill_sb h1 h2 h3 w)

omit hn in
theorem kill_conj {u : List Int} : E (kill n (u ++ [(n : Int)] ++ rinv u)) [] := by
  rw [kill_app, kill_app, kill_rinv]
  have e : kill n [(n : Int)] = [] := kill_of_all (by simp)
  rw [e, List.append_nil]
  exact e_inv _

theorem what_A {f : List Int} (hf : OkA n f) : ∃ u, E (act ini (sb (wA n) f) n) (u ++ [(n : Int)] ++ rinv u) ∧ E (kill n u) f.reverse ∧ ∀ j ∈ lets n, E (kill n (act ini (sb (wA n) f) j)) [(j : Int)] := by
  have hn2 := ns_le hn
  induction f with
  | nil =>
    refine ⟨[], .refl _, .refl _, fun j hj => ?_⟩
    rw [mem_lets] at hj
    have e : kill n [(j : Int)] = [(j : Int)] := by
      simp only [kill, List.filter_eq_self, List.mem_singleton, Bool.and_eq_true, bne_iff_ne]
      rintro x rfl; omega
    show E (kill n [(j : Int)]) _
    rw [e]; exact .refl _
  | cons x f ih =>
    have hx := hf x (by simp)
    obtain ⟨u, e1, e2, e3⟩ := ih fun y hy => hf y (by simp [hy])
    obtain ⟨b1, b2, b3⟩ := base hn hx.1 hx.2
    have hB2 : E (kill n (act ini (ltr (wA n) x) n)) [] := b1.kill.trans (kill_conj)
    have hB3 : ∀ j, n < j → act ini (ltr (wA n) x) j = [(j : Int)] := fun j hj =>
      act_high _ ini j fun y hy => by have := ltr_wA_abs hx.1 hx.2 y hy; omega
    have K := kill_sb hn b3 hB2 hB3
    have hact : ∀ j, 1 ≤ j → E (act ini (sb (wA n) (x :: f)) j) (sb (act ini (ltr (wA n) x)) (act ini (sb (wA n) f) j)) := by
      intro j hj
      rw [sb_cons, act_app]
      exact act_of _ _ j hj
    refine ⟨sb (act ini (ltr (wA n) x)) u ++ uOf n x, ?_, ?_, ?_⟩
    · refine (hact n (by omega)).trans ((e1.sb _).trans ?_)
      rw [sb_app, sb_app, sb_rinv, rinv_app]
      have e : sb (act ini (ltr (wA n) x)) [(n : Int)] = act ini (ltr (wA n) x) n := by
        simp only [sb, List.flatMap_cons, List.flatMap_nil, List.append_nil, ltr]
        rw [if_pos (by omega)]; simp
      rw [e]
      have := (b1.left (rinv (sb (act ini (ltr (wA n) x)) u))).right (sb (act ini (ltr (wA n) x)) u)
      simpa only [List.append_assoc] using this
    · rw [kill_app, List.reverse_cons]
      exact ((K u).trans e2).app b2
    · intro j hj
      have hj1 := (mem_lets.1 hj).1
      exact (hact j hj1).kill.trans ((K _).trans (e3 j hj))

omit hn in
theorem e_reverse : ∀ w : List Int, E (red w).reverse w.reverse
  | [] => .refl _
  | a :: w => by
    have ih := e_reverse w
    show E (push a (red w)).reverse _
    rw [List.reverse_cons]
    refine .trans ?_ (ih.left [a])
    cases red w with
    | nil => exact .refl _
    | cons b t =>
      rw [push_cons]
      split
      · next h =>
        rw [List.reverse_cons, List.append_assoc]
        have := e_cancel_in (a := b) (b := a) (by omega) t.reverse []
        simp only [List.append_nil] at this
        exact this.symm
      · rw [List.reverse_cons]; exact .refl _

omit hn in
theorem relF_red : ∀ w : List Int, RelF n w (red w)
  | [] => .refl _
  | a :: w => by
    have h := (RelF.refl (n := n) [a]).app2 (relF_red w)
    refine h.trans ?_
    show RelF n ([a] ++ red w) (push a (red w))
    cases red w with
    | nil => exact .refl _
    | cons b t =>
      rw [push_cons]
      split
      · next h =>
        have : b = -a := by omega
        subst this
        exact (RelF.cancel (n := n) a).app [] t
      · exact .refl _
omit hn in
theorem relF_of_e {u v : List Int} (h : E u v) : RelF n u v := by
  have a := relF_red (n := n) u
  rw [h] at a
  exact a.trans (relF_red (n := n) v).symm
end

theorem ini_word {w : List Int} {n : Nat} (h : n ≤ 1) (hw : Word n w) : w = [] := by
  cases w with
  | nil => rfl
  | cons a w => rcases hw a (by simp) with h | h <;> omega

theorem faithful : ∀ n, n ≤ 5 → ∀ w, Word n w → ET (act ini w) ini → RelF n w []
  | 0, _, w, hw, _ => by rw [ini_word (by omega) hw]; exact .refl _
  | n + 1, h5, w, hw, he => by
    by_cases h0 : n = 0
    · rw [ini_word (by omega) hw]; exact .refl _
    have hn : n + 1 ∈ ns := mem_ns (by omega) h5
    obtain ⟨a, v, k, ⟨f, hf, rfl⟩, hv, hk1, hkn, e⟩ := comb (n := n + 1) (by omega) _ (Nat.le_refl _) hw
    have e' : RelF (n + 1) w (sb (wA (n + 1)) f ++ (v ++ rl (n + 1) (n + 1 - k))) := RelF.ofMk e
    have hact : ET (act ini (sb (wA (n + 1)) f ++ (v ++ rl (n + 1) (n + 1 - k)))) ini := (e'.act ini).symm.trans he
    -- the strand n + 1 ends where it began
    have hm : ((n + 1 : Nat) : Int) ≠ 0 := by omega
    have hk : k = n + 1 := by
      have h1 := (hact k hk1).cnt hm
      have h2 := congrFun (cnt_act hm (sb (wA (n + 1)) f ++ (v ++ rl (n + 1) (n + 1 - k))) ini) k
      rw [swW_app, swW_app, swW_sb hf] at h2
      have h3 := swW_rl (n := n + 1) (swW (fun j => cnt ((n + 1 : Nat) : Int) (ini j)) v) (n + 1 - k) (by omega)
      rw [show n + 1 - (n + 1 - k) = k from by omega, swW_low (n := n + 1) hv] at h3
      rw [h1, h3] at h2
      have h4 : cnt ((n + 1 : Nat) : Int) (ini (n + 1)) = 1 := by simp [cnt, ini]
      rw [h4] at h2
      simp only [cnt, ini, List.map_cons, List.map_nil, List.sum_cons, List.sum_nil] at h2
      by_cases hk : (k : Int) = ((n + 1 : Nat) : Int)
      · omega
      · rw [if_neg hk] at h2
        split at h2 <;> omega
    subst hk
    rw [Nat.sub_self] at e' hact
    simp only [rl, List.append_nil] at e' hact
    -- what goes round comes to nothing
    obtain ⟨u, u1, u2, _⟩ := what_A hn hf
    have hlast : E (act ini (sb (wA (n + 1)) f) (n + 1)) [((n + 1 : Nat) : Int)] := by
      have := hact (n + 1) (by omega)
      rw [act_app, act_high v _ _ (fun x hx => by rcases hv x hx with h | h <;> omega)] at this
      exact this
    have hu := conj_kill hm (u1.symm.trans hlast)
    have hfr : E f.reverse [] := u2.symm.trans hu
    have hf0 : E f [] := by
      have a := e_reverse f.reverse
      rw [List.reverse_reverse] at a
      have b : red f.reverse = [] := hfr
      rw [b] at a
      exact a.symm
    have hA : RelF (n + 1) (sb (wA (n + 1)) f) [] := relF_of_e (hf0.sb _)
    have hv' : RelF (n + 1) w v := by
      have := e'.trans (hA.app2 (.refl v))
      simpa using this
    have hvact : ET (act ini v) ini := (hv'.act ini).symm.trans he
    exact hv'.trans ((faithful n (by omega) v (by simpa using hv) hvact).mono (by omega))

/- words that do the same are one braid -/
theorem same_rel {n : Nat} (hn : n ∈ ns) {u v : List Int} (hu : Word n u) (hv : Word n v) (h : ET (act ini u) (act ini v)) : Rel n u v := by
  have hiv : Word n (rinv v) := fun x hx => by
    have := (hv _ (mem_rinv hx)).neg
    rwa [Int.neg_neg] at this
  have h1 : ET (act ini (u ++ rinv v)) ini := by
    rw [act_app]
    refine (h.act _).trans ?_
    rw [← act_app]
    exact (relF_inv (n := n) v).act ini
  have h2 := faithful n (ns_le hn).2 _ (word_app.2 ⟨hu, hiv⟩) h1
  have h3 : RelF n u v := by
    have a := h2.app2 (.refl v)
    have b := (RelF.refl u).app2 (relF_inv' (n := n) v)
    simp only [List.append_nil, List.append_assoc, List.nil_append] at a b
    exact b.symm.trans a
  exact h3.rel hu hv

end Bd
