/- Plain mathematics: what Act tells (as lists), what Normal tells, and that both tell the same of two words. -/
import Derived.Test.YtlnmboiangnpfaaMFaith
namespace Bd

/- ---- Act as lists ---- -/
def aL (L : List (List Int)) (x : Int) : List (List Int) :=
  let i := x.natAbs
  let a := L.getD (i - 1) []
  let b := L.getD i []
  if 0 < x then (L.set (i - 1) (red (a ++ b ++ rinv a))).set i a else (L.set (i - 1) b).set i (red (rinv b ++ a ++ b))
def iniL (n : Nat) : List (List Int) := (List.range n).map fun k => [((k + 1 : Nat) : Int)]
def actL (n : Nat) (w : List Int) : List (List Int) := w.foldl aL (iniL n)

def Fits (n : Nat) (L : List (List Int)) (T : Tup) : Prop :=
  L.length = n ∧ (∀ j, 1 ≤ j → j ≤ n → E (L.getD (j - 1) []) (T j)) ∧ (∀ l ∈ L, Rd l)

theorem getD_mem {L : List (List Int)} {k : Nat} (h : k < L.length) : L.getD k [] ∈ L := by
  rw [List.getD_eq_getElem?_getD, List.getElem?_eq_getElem h]; exact List.getElem_mem h

theorem aL_fits {n : Nat} {L : List (List Int)} {T : Tup} {x : Int} (hx : Let n x) (h : Fits n L T) : Fits n (aL L x) (a1 T x) := by
  obtain ⟨hl, he, hr⟩ := h
  have h0 : x ≠ 0 := by rcases hx with h | h <;> omega
  have hi1 : 1 ≤ x.natAbs := by omega
  have hin : x.natAbs < n := by rcases hx with h | h <;> omega
  have ea := he x.natAbs hi1 (by omega)
  have eb := he (x.natAbs + 1) (by omega) (by omega)
  rw [Nat.add_sub_cancel] at eb
  have ra := hr _ (getD_mem (L := L) (k := x.natAbs - 1) (by omega))
  have rb := hr _ (getD_mem (L := L) (k := x.natAbs) (by omega))
  have key : ∀ (P Q : List Int) (p q : List Int), E P p → E Q q → Rd P → Rd Q →
      Fits n ((L.set (x.natAbs - 1) P).set x.natAbs Q) (fun j => if j = x.natAbs then p else if j = x.natAbs + 1 then q else T j) := by
    intro P Q p q hP hQ rP rQ
    refine ⟨by simp [hl], ?_, ?_⟩
    · intro j hj1 hjn
      simp only [List.getD_eq_getElem?_getD, List.getElem?_set, List.length_set]
      by_cases c1 : j = x.natAbs
      · rw [if_neg (by omega), if_pos (by omega), if_pos (by omega), if_pos c1]; exact hP
      · by_cases c2 : j = x.natAbs + 1
        · rw [if_pos (by omega), if_pos (by omega), if_neg c1, if_pos c2]; exact hQ
        · rw [if_neg (by omega), if_neg (by omega), if_neg c1, if_neg c2]
          have := he j hj1 hjn
          rwa [List.getD_eq_getElem?_getD] at this
    · intro l hl'
      rcases List.mem_or_eq_of_mem_set hl' with hl' | rfl
      · rcases List.mem_or_eq_of_mem_set hl' with hl' | rfl
        · exact hr l hl'
        · exact rP
      · exact rQ
  unfold aL a1
  simp only [h0, if_false]
  split
  · refine key _ _ _ _ ?_ ea (rd_red _) ra
    exact (e_red _).trans ((ea.app eb).app ea.inv)
  · refine key _ _ _ _ eb ?_ rb (rd_red _)
    exact (e_red _).trans ((eb.inv.app ea).app eb)

theorem iniL_fits (n : Nat) : Fits n (iniL n) ini := by
  refine ⟨by simp [iniL], ?_, ?_⟩
  · intro j hj1 hjn
    simp only [iniL, List.getD_eq_getElem?_getD, List.getElem?_map]
    rw [List.getElem?_range (by omega)]
    show E [((j - 1 + 1 : Nat) : Int)] [(j : Int)]
    rw [show j - 1 + 1 = j from by omega]; exact .refl _
  · intro l hl
    simp only [iniL, List.mem_map] at hl
    obtain ⟨k, _, rfl⟩ := hl
    trivial
theorem foldl_fits {n : Nat} : ∀ {w : List Int} {L : List (List Int)} {T : Tup}, Word n w → Fits n L T → Fits n (w.foldl aL L) (act T w)
  | [], _, _, _, h => h
  | x :: w, L, T, hw, h => foldl_fits (w := w) (L := aL L x) (T := a1 T x) (fun y hy => hw y (by simp [hy])) (aL_fits (hw x (by simp)) h)
theorem actL_fits {n : Nat} {w : List Int} (hw : Word n w) : Fits n (actL n w) (act ini w) := foldl_fits hw (iniL_fits n)

theorem word_abs {n : Nat} {w : List Int} (hw : Word n w) : ∀ x ∈ w, x.natAbs < n := fun x hx => by rcases hw x hx with h | h <;> omega

theorem actL_et {n : Nat} {u v : List Int} (hu : Word n u) (hv : Word n v) (h : actL n u = actL n v) : ET (act ini u) (act ini v) := by
  intro j hj
  obtain ⟨l1, e1, _⟩ := actL_fits hu
  obtain ⟨l2, e2, _⟩ := actL_fits hv
  by_cases hjn : j ≤ n
  · have a := e1 j hj hjn
    have b := e2 j hj hjn
    rw [h] at a
    exact a.symm.trans b
  · rw [act_high u ini j fun x hx => by have := word_abs hu x hx; omega, act_high v ini j fun x hx => by have := word_abs hv x hx; omega]
    exact .refl _
theorem et_actL {n : Nat} {u v : List Int} (hu : Word n u) (hv : Word n v) (h : ET (act ini u) (act ini v)) : actL n u = actL n v := by
  obtain ⟨l1, e1, r1⟩ := actL_fits hu
  obtain ⟨l2, e2, r2⟩ := actL_fits hv
  apply List.ext_getElem (by omega)
  intro k h1 h2
  have a := e1 (k + 1) (by omega) (by omega)
  have b := e2 (k + 1) (by omega) (by omega)
  have c := h (k + 1) (by omega)
  rw [Nat.add_sub_cancel, List.getD_eq_getElem?_getD, List.getElem?_eq_getElem h1] at a
  rw [Nat.add_sub_cancel, List.getD_eq_getElem?_getD, List.getElem?_eq_getElem h2] at b
  have d : E (actL n u)[k] (actL n v)[k] := a.trans (c.trans b.symm)
  have := r1 _ (List.getElem_mem h1)
  have := r2 _ (List.getElem_mem h2)
  unfold E at d
  rwa [red_of_rd ‹Rd (actL n u)[k]›, red_of_rd ‹Rd (actL n v)[k]›] at d

/- ---- the word of a permutation ---- -/
def wdF (n : Nat) : Nat → Pm → List Int
  | 0, _ => []
  | k + 1, p => match (lets n).find? (starts p ·) with
    | none => []
    | some i => (i : Int) :: wdF n k (swp p i)
def wd (n : Nat) (p : Pm) : List Int := wdF n 20 p
theorem wdF_word {n : Nat} : ∀ (k : Nat) (p : Pm), Word n (wdF n k p)
  | 0, _ => word_nil
  | k + 1, p => by
    unfold wdF
    split
    · exact word_nil
    · next i h => exact word_cons.2 ⟨let_nat (List.mem_of_find?_eq_some h), wdF_word k _⟩
theorem wd_word {n : Nat} (p : Pm) : Word n (wd n p) := wdF_word 20 p

def chkW1 (n : Nat) : Bool := (perms n).all fun p => (lets n).all fun i =>
  (ends p i || actL n (wd n (thn p i)) == actL n (wd n p ++ [(i : Int)])) && (!starts p i || actL n (wd n p) == actL n ((i : Int) :: wd n (swp p i)))
def chkW2 (n : Nat) : Bool := (perms n).all fun p => actL n (wd n (delta n) ++ wd n p) == actL n (wd n (flp n p) ++ wd n (delta n))
def chkW3 (n : Nat) : Bool := wd n (idn n) == [] && (lets n).all fun i => wd n (gen n i) == [(i : Int)] && !ends (thn (delta n) i) i && thn (thn (delta n) i) i == delta n
theorem chkW1_ok : ns.all chkW1 = true := by decide +kernel
theorem chkW2_ok : ns.all chkW2 = true := by decide +kernel
theorem chkW3_ok : ns.all chkW3 = true := by decide +kernel

/- ---- words that do the same to all tuples ---- -/
def AE (u v : List Int) : Prop := ∀ T : Tup, ET (act T u) (act T v)
theorem AE.refl (u : List Int) : AE u u := fun _ => .refl _
theorem AE.symm {u v : List Int} (h : AE u v) : AE v u := fun T => (h T).symm
theorem AE.trans {u v w : List Int} (h : AE u v) (h' : AE v w) : AE u w := fun T => (h T).trans (h' T)
theorem AE.app {u u' v v' : List Int} (h : AE u u') (h' : AE v v') : AE (u ++ v) (u' ++ v') := by
  intro T
  rw [act_app, act_app]
  exact ((h T).act v).trans (h' _)
theorem ae_of_ini {u v : List Int} (h : ET (act ini u) (act ini v)) : AE u v := by
  intro T
  refine (act_of T u).trans (ET.trans ?_ (act_of T v).symm)
  exact fun j hj => (h j hj).sb T
theorem ae_inv (u : List Int) : AE (u ++ rinv u) [] := fun T => (relF_inv (n := 0) u).act T
theorem ae_inv' (u : List Int) : AE (rinv u ++ u) [] := fun T => (relF_inv' (n := 0) u).act T

section
variable {n : Nat} (hn : n ∈ ns)
include hn

theorem wd_thn {p : Pm} {i : Nat} (hp : p ∈ perms n) (hi : i ∈ lets n) (e : ends p i = false) : AE (wd n (thn p i)) (wd n p ++ [(i : Int)]) := by
  have h := List.all_eq_true.1 (List.all_eq_true.1 (List.all_eq_true.1 chkW1_ok n hn) p hp) i hi
  simp only [e, Bool.false_or, Bool.and_eq_true, beq_iff_eq] at h
  exact ae_of_ini (actL_et (wd_word _) (word_app.2 ⟨wd_word _, word_cons.2 ⟨let_nat hi, word_nil⟩⟩) h.1)
theorem wd_swp {p : Pm} {i : Nat} (hp : p ∈ perms n) (hi : i ∈ lets n) (e : starts p i = true) : AE (wd n p) ([(i : Int)] ++ wd n (swp p i)) := by
  have h := List.all_eq_true.1 (List.all_eq_true.1 (List.all_eq_true.1 chkW1_ok n hn) p hp) i hi
  simp only [e, Bool.not_true, Bool.false_or, Bool.and_eq_true, beq_iff_eq] at h
  exact ae_of_ini (actL_et (wd_word _) (word_cons.2 ⟨let_nat hi, wd_word _⟩) h.2)
theorem wd_flp {p : Pm} (hp : p ∈ perms n) : AE (wd n (delta n) ++ wd n p) (wd n (flp n p) ++ wd n (delta n)) := by
  have h := List.all_eq_true.1 (List.all_eq_true.1 chkW2_ok n hn) p hp
  simp only [beq_iff_eq] at h
  exact ae_of_ini (actL_et (word_app.2 ⟨wd_word _, wd_word _⟩) (word_app.2 ⟨wd_word _, wd_word _⟩) h)
theorem wd_idn : wd n (idn n) = [] := by
  have h := List.all_eq_true.1 chkW3_ok n hn
  simp only [chkW3, Bool.and_eq_true, beq_iff_eq] at h
  exact h.1
theorem wd_gen {i : Nat} (hi : i ∈ lets n) : wd n (gen n i) = [(i : Int)] := by
  have h := List.all_eq_true.1 chkW3_ok n hn
  simp only [chkW3, Bool.and_eq_true, beq_iff_eq, List.all_eq_true] at h
  exact (h.2 i hi).1.1
theorem wd_del {i : Nat} (hi : i ∈ lets n) : AE (wd n (delta n)) (wd n (thn (delta n) i) ++ [(i : Int)]) := by
  have h := List.all_eq_true.1 chkW3_ok n hn
  simp only [chkW3, Bool.and_eq_true, beq_iff_eq, List.all_eq_true, Bool.not_eq_true'] at h
  have h1 := wd_thn hn (thn_mem hn (delta_mem hn) hi) hi (h.2 i hi).1.2
  rwa [(h.2 i hi).2] at h1

theorem wds_step {L M : List Pm} (h : Step n L M) (hL : AllP n L) : AE (L.flatMap (wd n)) (M.flatMap (wd n)) := by
  induction h with
  | @here p q B i hi hs he =>
    simp only [List.flatMap_cons]
    have a := wd_thn hn (hL p (by simp)) hi he
    have b := wd_swp hn (hL q (by simp)) hi hs
    have c := (AE.refl (wd n p)).app b
    have d := a.app (.refl (wd n (swp q i)))
    have e : AE (wd n p ++ wd n q) (wd n (thn p i) ++ wd n (swp q i)) := by
      rw [List.append_assoc] at d
      exact c.trans d.symm
    have := e.app (.refl (B.flatMap (wd n)))
    rwa [List.append_assoc, List.append_assoc] at this
  | @there p L L' _ ih =>
    simp only [List.flatMap_cons]
    exact (AE.refl _).app (ih fun y hy => hL y (by simp [hy]))
theorem wds_steps {L M : List Pm} (h : Steps n L M) (hL : AllP n L) : AE (L.flatMap (wd n)) (M.flatMap (wd n)) := by
  induction h with
  | refl => exact .refl _
  | head s _ ih => exact (wds_step hn s hL).trans (ih (hL.step hn s))
theorem wds_flip {L : List Pm} (hL : AllP n L) : AE (wd n (delta n) ++ L.flatMap (wd n)) ((L.map (flp n)).flatMap (wd n) ++ wd n (delta n)) := by
  induction L with
  | nil => simp only [List.map_nil, List.flatMap_nil, List.append_nil, List.nil_append]; exact .refl _
  | cons p L ih =>
    simp only [List.map_cons, List.flatMap_cons]
    have a := (wd_flp hn (hL p (by simp))).app (.refl (L.flatMap (wd n)))
    have b := (AE.refl (wd n (flp n p))).app (ih fun y hy => hL y (by simp [hy]))
    rw [List.append_assoc, List.append_assoc] at a
    rw [List.append_assoc]
    exact a.trans b
end

/- a power of Delta -/
def pwN (n : Nat) : Nat → List Int
  | 0 => []
  | k + 1 => pwN n k ++ wd n (delta n)
def pw (n : Nat) (k : Int) : List Int := if 0 ≤ k then pwN n k.toNat else rinv (pwN n (-k).toNat)
theorem pwN_com (n : Nat) : ∀ k, pwN n k ++ wd n (delta n) = wd n (delta n) ++ pwN n k
  | 0 => by simp [pwN]
  | k + 1 => by
    show pwN n k ++ wd n (delta n) ++ wd n (delta n) = wd n (delta n) ++ (pwN n k ++ wd n (delta n))
    rw [pwN_com n k, List.append_assoc, pwN_com n k]
theorem pw_succ (n : Nat) (k : Int) : AE (pw n (k + 1)) (pw n k ++ wd n (delta n)) := by
  unfold pw
  by_cases h : 0 ≤ k
  · rw [if_pos h, if_pos (by omega), show (k + 1).toNat = k.toNat + 1 from by omega]; exact .refl _
  · by_cases h1 : k = -1
    · subst h1
      rw [if_pos (by omega), if_neg (by omega)]
      show AE [] (rinv ([] ++ wd n (delta n)) ++ wd n (delta n))
      exact (ae_inv' _).symm
    · rw [if_neg h, if_neg (by omega)]
      obtain ⟨m, hm⟩ : ∃ m : Nat, (-k).toNat = m + 1 := ⟨(-k).toNat - 1, by omega⟩
      rw [hm, show (-(k + 1)).toNat = m from by omega]
      show AE (rinv (pwN n m)) (rinv (pwN n m ++ wd n (delta n)) ++ wd n (delta n))
      rw [pwN_com, rinv_app, List.append_assoc]
      have := (AE.refl (rinv (pwN n m))).app (ae_inv' (wd n (delta n))).symm
      rwa [List.append_nil] at this
def stW (n : Nat) (s : St) : List Int := pw n s.1 ++ s.2.flatMap (wd n)

theorem Eqv.ae {n : Nat} (hn : n ∈ ns) {s t : St} (h : Eqv n s t) : AE (stW n s) (stW n t) := by
  induction h with
  | step hL h => exact (AE.refl _).app (wds_steps hn h hL)
  | one hA hB =>
    simp only [stW, List.flatMap_append, List.flatMap_cons, wd_idn hn, List.nil_append]
    exact .refl _
  | @del k L hL =>
    simp only [stW, List.flatMap_cons]
    rw [← List.append_assoc]
    exact (pw_succ n k).symm.app (.refl _)
  | symm _ ih => exact ih.symm
  | trans _ _ ih1 ih2 => exact ih1.trans ih2

theorem letter_ae {n : Nat} (hn : n ∈ ns) {s : St} {a : Int} (ha : Let n a) (hs : AllP n s.2) : AE (stW n (letter n s a)) (stW n s ++ [a]) := by
  obtain ⟨k, L⟩ := s
  unfold letter
  split
  · next h0 =>
    have hi := let_pos ha h0
    simp only [stW, List.flatMap_append, List.flatMap_cons, List.flatMap_nil, List.append_nil, wd_gen hn hi, show ((a.toNat : Nat) : Int) = a from by omega, List.append_assoc]
    exact .refl _
  · next h0 =>
    have hi := let_neg ha h0
    simp only [stW, List.flatMap_append, List.flatMap_cons, List.flatMap_nil, List.append_nil]
    have hff : (L.map (flp n)).map (flp n) = L := by
      rw [List.map_map]
      exact (List.map_congr_left fun x hx => flp_flp hn (hs x hx)).trans (List.map_id _)
    have a1 := wd_del hn hi
    -- Delta without a letter is Delta and the letter's reciprocal
    have a2 : AE (wd n (thn (delta n) (-a).toNat)) (wd n (delta n) ++ [a]) := by
      have b := a1.app (.refl [a])
      have c := (AE.refl (wd n (thn (delta n) (-a).toNat))).app (ae_inv [((-a).toNat : Int)])
      have e : rinv [((-a).toNat : Int)] = [a] := by simp only [rinv, List.map_cons, List.map_nil, List.reverse_cons, List.reverse_nil, List.nil_append]; congr 1; omega
      rw [e] at c
      rw [List.append_assoc] at b
      rw [List.append_nil] at c
      exact c.symm.trans b.symm
    have a3 := wds_flip hn (hs.flip hn)
    rw [hff] at a3
    have a4 := pw_succ n (k - 1)
    rw [show k - 1 + 1 = k from by omega] at a4
    have h1 : AE (pw n (k - 1) ++ ((L.map (flp n)).flatMap (wd n) ++ wd n (thn (delta n) (-a).toNat))) (pw n (k - 1) ++ ((L.map (flp n)).flatMap (wd n) ++ (wd n (delta n) ++ [a]))) :=
      (AE.refl _).app ((AE.refl _).app a2)
    refine h1.trans ?_
    -- Delta goes to the head: flipped twice, or from the other side
    have a5 := wds_flip hn hs
    have h2 : AE ((L.map (flp n)).flatMap (wd n) ++ (wd n (delta n) ++ [a])) (wd n (delta n) ++ (L.flatMap (wd n) ++ [a])) := by
      have := a5.symm.app (.refl [a])
      rwa [List.append_assoc, List.append_assoc] at this
    refine ((AE.refl _).app h2).trans ?_
    rw [← List.append_assoc, List.append_assoc (pw n k)]
    exact a4.symm.app (.refl _)

theorem run_ae {n : Nat} (hn : n ∈ ns) : ∀ {w : List Int} {s : St}, Word n w → AllP n s.2 → AE (stW n (run n s w)) (stW n s ++ w)
  | [], s, _, _ => by rw [List.append_nil]; exact .refl _
  | a :: w, s, hw, hs => by
    have ha := hw a (by simp)
    have h := run_ae hn (w := w) (s := letter n s a) (fun x hx => hw x (by simp [hx])) (letter_allP hn ha hs)
    refine h.trans ?_
    have := (letter_ae hn ha hs).app (.refl w)
    rwa [List.append_assoc] at this

theorem run_start {n : Nat} (hn : n ∈ ns) {w : List Int} (hw : Word n w) : AE (stW n (run n start w)) w :=
  run_ae hn hw fun _ h => by cases h

/- THE LAW: one normal form just if one action -/
theorem nf_iff {n : Nat} (hn : n ∈ ns) {u v : List Int} (hu : Word n u) (hv : Word n v) {s t : St} (hs : IsNf n (run n start u) s) (ht : IsNf n (run n start v) t) : s = t ↔ actL n u = actL n v := by
  have pu : AllP n (run n start u).2 := run_allP hn hu fun _ h => by cases h
  have pv : AllP n (run n start v).2 := run_allP hn hv fun _ h => by cases h
  constructor
  · rintro rfl
    have e1 := eqv_nf hn pu hs
    have e2 := eqv_nf hn pv ht
    have := (e1.trans e2.symm).ae hn
    have h := (run_start hn hu).symm.trans (this.trans (run_start hn hv))
    exact et_actL hu hv (h ini)
  · intro h
    have hr := same_rel hn hu hv (actL_et hu hv h)
    exact isNf_unique hn pv ((hr.nf hn).1 hs) ht

/- words that come of one another by the relations -/
theorem rel_nf {n : Nat} (hn : n ∈ ns) {u v : List Int} (h : RelF n u v) (hu : Word n u) (hv : Word n v) {s t : St} (hs : IsNf n (run n start u) s) (ht : IsNf n (run n start v) t) : s = t ∧ actL n u = actL n v := by
  have h2 := et_actL hu hv (h.act ini)
  exact ⟨(nf_iff hn hu hv hs ht).2 h2, h2⟩

end Bd
