/- Walks: a permutation's ends change places. -/
import Derived.Test.YtlnmboiangnpfaaW1
namespace Go.Proofs.Ytlnmboiangnpfaa
open Go.RowKit

set_option maxHeartbeats 400000 in
theorem then_any (b n : Nat) (p : List Nat) (i : Int) (w : World) (hn : n ∈ Bd.ns) (h1 : 1 ≤ i) (h2 : i < n) (hp : PermAt w b n p) :
    Calls Try.prog 22 #[.slice (some ⟨b, 0, none⟩) (n + 1) (n + 1), .int .i64 i] w fun e w' => e = .returned (.tuple #[]) ∧ PermAt w' b n (Bd.thn p i.toNat) ∧ Fr (· = b) w w' := by
  obtain ⟨k, rfl⟩ := Int.eq_ofNat_of_zero_le (show 0 ≤ i by omega)
  rw [Int.toNat_natCast]
  have c1 := index_any b n p k w hn (by omega) (by omega) hp
  have c2 := index_any b n p (k + 1 : Nat) w hn (by omega) (by omega) hp
  rw [Int.toNat_natCast] at c1 c2
  have C1 := Lib.hid c1
  have C2 := Lib.hid c2
  have hn5 := ns_le hn
  have hl := Bd.perm_len hn hp.2
  have x1 := List.idxOf_lt_length_iff.2 (Bd.perm_mem hn hp.2 (x := k) (by omega)).1
  have x2 := List.idxOf_lt_length_iff.2 (Bd.perm_mem hn hp.2 (x := k + 1) (by omega)).1
  rw [hl] at x1 x2
  have d1 := hp.1.cell x1
  have d2 := hp.1.cell x2
  have f1 := hp.1.frozen (p.idxOf k)
  have f2 := hp.1.frozen (p.idxOf (k + 1))
  unfold cellsOf at d1 d2
  obtain ⟨a, HA⟩ : ∃ a, Hid (a = p.idxOf k) := ⟨_, Lib.hid rfl⟩
  obtain ⟨c, HC⟩ : ∃ c, Hid (c = p.idxOf (k + 1)) := ⟨_, Lib.hid rfl⟩
  rw [← HA.out] at x1 d1 f1
  rw [← HC.out] at x2 d2 f2
  have g1 : ∀ X, (w.setCell ⟨b, a, none⟩ X).cell? ⟨b, c, none⟩ = some (if c = a then X else .int .i64 (Bd.pg p c : Nat)) := fun X => (hp.1.set a X).cell x2
  have g2 : ∀ X, (w.setCell ⟨b, a, none⟩ X).frozen? ⟨b, c, none⟩ = false := fun X => (hp.1.set a X).frozen c
  have hne : ¬ c = a := by
    intro e
    have e1 := List.getElem_idxOf (x := k) (xs := p) (by rw [hl, ← HA.out]; exact x1)
    have e2 := List.getElem_idxOf (x := k + 1) (xs := p) (by rw [hl, ← HC.out]; exact x2)
    have h3 : p.idxOf k = p.idxOf (k + 1) := by rw [← HA.out, ← HC.out]; exact e.symm
    have h4 : p[p.idxOf k]'(by rw [hl, ← HA.out]; exact x1) = p[p.idxOf (k + 1)]'(by rw [hl, ← HC.out]; exact x2) := by congr 1
    omega
  simp only [if_neg hne] at g1
  have C1' := Lib.hid C1.out
  have C2' := Lib.hid C2.out
  have HP := Lib.hid hp
  have HN := Lib.hid hn
  clear hp hn c1 c2 C1 C2 hl
  go_enter Try.func22, Try.ntmps22
  go_wp2_with fail
  refine C1'.out.mono ?_
  rintro e w' ⟨rfl, rfl⟩
  go_wp2_with fail
  refine C2'.out.mono ?_
  rintro e w' ⟨rfl, rfl⟩
  rw [← HA.out, ← HC.out]
  go_wp2
  go_region
  go_end0
  have hp := HP.out
  have hn := HN.out
  have hk : k ∈ Bd.lets n := Bd.mem_lets.2 (by omega)
  refine ⟨rfl, ⟨(((hp.1.set a _).set c _).drew).congr fun j hj => ?_, Bd.thn_mem hn hp.2 hk⟩, (((Fr.refl (· = b) w).setCell (a := ⟨b, a, none⟩) (.inl rfl) _).setCell (a := ⟨b, c, none⟩) (.inl rfl) _).drew⟩
  have e := (Bd.perm_then hn hp.2 hk hj).1
  rw [← HA.out, ← HC.out] at e
  simp only [cellsOf, e]
  split
  · rfl
  · split <;> rfl

theorem and_ff {a : Bool} : (a && false) = false := by cases a <;> rfl

/- ---- shift ---- -/
def shiftI (n : Nat) (p q : List Nat) : Option Nat := Bd.firstI n p q

theorem find_from {n k : Nat} {f : Nat → Bool} (h1 : 1 ≤ k) (hk : k ≤ n) (h : ∀ i, 1 ≤ i → i < k → f i = false) : (Bd.lets n).find? f = ((List.range (n - k)).map (· + k)).find? f := by
  induction k with
  | zero => omega
  | succ k ih =>
    by_cases h0 : k = 0
    · subst h0; rfl
    · rw [ih (by omega) (by omega) fun i a b => h i a (by omega)]
      have e : n - k = (n - (k + 1)) + 1 := by omega
      rw [e, List.range_succ_eq_map]
      simp only [List.map_cons, List.map_map, Nat.zero_add]
      rw [List.find?_cons_of_neg (by simp [h k (by omega) (by omega)])]
      congr 1
      apply List.map_congr_left
      intro x _
      simp only [Function.comp_apply]; omega
theorem firstI_none {n : Nat} {p q : List Nat} (h : ∀ i, 1 ≤ i → i < n → (Bd.starts q i && !Bd.ends p i) = false) : Bd.firstI n p q = none := by
  unfold Bd.firstI
  rw [List.find?_eq_none]
  intro i hi
  rw [Bd.mem_lets] at hi
  simp [h i hi.1 hi.2]
theorem firstI_some {n k : Nat} {p q : List Nat} (h1 : 1 ≤ k) (hk : k < n) (h : ∀ i, 1 ≤ i → i < k → (Bd.starts q i && !Bd.ends p i) = false) (h2 : (Bd.starts q k && !Bd.ends p k) = true) : Bd.firstI n p q = some k := by
  unfold Bd.firstI
  rw [find_from h1 (by omega) h, show n - k = (n - k - 1) + 1 from by omega, List.range_succ_eq_map]
  simp only [List.map_cons, Nat.zero_add]
  exact List.find?_cons_of_pos (p := fun i => Bd.starts q i && !Bd.ends p i) h2

/- what shift leaves of two permutations -/
def shP (n : Nat) (p q : List Nat) : List Nat := match Bd.firstI n p q with | some i => Bd.thn p i | none => p
def shQ (n : Nat) (p q : List Nat) : List Nat := match Bd.firstI n p q with | some i => Bd.swp q i | none => q

theorem New.perm {w w' : World} (h : New w w') {b n : Nat} {p : List Nat} (hp : PermAt w b n p) : PermAt w' b n p := Fr.perm h hp (fun x => x)

set_option maxHeartbeats 1000000 in
theorem shift_any (b c n : Nat) (p q : List Nat) (w : World) (hn : n ∈ Bd.ns) (hbc : b ≠ c) (hp : PermAt w b n p) (hq : PermAt w c n q) :
    Calls Try.prog 25 #[.slice (some ⟨b, 0, none⟩) (n + 1) (n + 1), .slice (some ⟨c, 0, none⟩) (n + 1) (n + 1)] w fun e w' => e = .returned (.bool (Bd.firstI n p q).isSome) ∧ PermAt w' b n (shP n p q) ∧ PermAt w' c n (shQ n p q) ∧ Fr (fun k => k = b ∨ k = c) w w' := by
  have hn5 := ns_le hn
  have HN := Lib.hid hn
  have HP := Lib.hid hp
  have HQ := Lib.hid hq
  have HB := Lib.hid hbc
  clear hn hp hq hbc
  go_enter Try.func25, Try.ntmps25
  go_wp2_with fail
  go_loopw [5] (fun i wr => ∃ k : Nat, 1 ≤ k ∧ k ≤ n ∧ i = .int .i64 k ∧ Hid (New w wr) ∧ Hid (∀ i, 1 ≤ i → i < k → (Bd.starts q i && !Bd.ends p i) = false)) (fun i _ => n - (intOf i).toNat)
  case atStart => exact ⟨1, by omega, by omega, rfl, Lib.hid (Fr.refl _ _), Lib.hid fun i a b => by omega⟩
  case round =>
    obtain ⟨k, hk1, hkn, rfl, HW, HK⟩ := hrel
    have HPr := Lib.hid (New.perm HW.out HP.out)
    have HQr := Lib.hid (New.perm HW.out HQ.out)
    by_cases hlt : k < n
    · have s1 := starts_any c n q k wr HN.out (by omega) (by omega) HQr.out
      rw [Int.toNat_natCast] at s1
      by_cases hs : Bd.starts q k = true
      · rw [hs] at s1
        have S1 := Lib.hid s1
        have HS := Lib.hid hs
        clear s1 hs
        go_wp2_with fail
        refine S1.out.mono ?_
        rintro e w1 ⟨rfl, h1⟩
        have H1 := Lib.hid h1
        have s2 := ends_any b n p k w1 HN.out (by omega) (by omega) (New.perm h1 HPr.out)
        rw [Int.toNat_natCast] at s2
        clear h1
        by_cases he : Bd.ends p k = true
        · rw [he] at s2
          have S2 := Lib.hid s2
          have HE := Lib.hid he
          clear s2 he
          go_wp2_with fail
          refine S2.out.mono ?_
          rintro e w2 ⟨rfl, rfl⟩
          go_wp2
          go_roundw
          case rel =>
            refine ⟨k + 1, by omega, by omega, by go_num, Lib.hid (Fr.trans HW.out H1.out), Lib.hid fun i a b => ?_⟩
            by_cases hik : i = k
            · subst hik; simp [HE.out]
            · exact HK.out i a (by omega)
          case measure => simp [intOf]; omega
        · rw [Bool.not_eq_true] at he
          rw [he] at s2
          have S2 := Lib.hid s2
          have S3 := Lib.hid (then_any b n p k w1 HN.out (by omega) (by omega) (New.perm H1.out HPr.out))
          have HE := Lib.hid he
          clear s2 he
          go_wp2_with fail
          refine S2.out.mono ?_
          rintro e w2 ⟨rfl, rfl⟩
          go_wp2_with fail
          refine S3.out.mono ?_
          rintro e w3 ⟨rfl, h3, h3'⟩
          rw [Int.toNat_natCast] at h3
          have HQ3 := Lib.hid (Fr.perm h3' (New.perm H1.out HQr.out) (fun e => HB.out e.symm))
          obtain ⟨d1, d2, f1, f2, g1, g2⟩ := two_cells HQ3.out.1 (a := k) (c := k + 1) (by omega) (by omega) (by omega)
          unfold cellsOf at d1 d2 g1
          have H3 := Lib.hid h3
          have H3' := Lib.hid h3'
          clear h3 h3'
          go_wp2
          go_region
          go_wp2
          go_ret
          have hi := firstI_some hk1 hlt HK.out (by rw [HS.out, HE.out]; rfl)
          have hk : k ∈ Bd.lets n := Bd.mem_lets.2 (by omega)
          have hfr : Fr (fun k => k = b ∨ k = c) w w3 := (Fr.mono HW.out (fun _ x => x.elim)).trans ((Fr.mono H1.out (fun _ x => x.elim)).trans (Fr.mono H3'.out (fun _ x => .inl x)))
          refine ⟨by rw [hi]; rfl, ?_, ?_, ?_⟩
          · have e1 : shP n p q = Bd.thn p k := by unfold shP; rw [hi]
            rw [e1]
            exact ⟨(((H3.out.1.setOther (a := ⟨c, k, none⟩) HB.out _).setOther (a := ⟨c, k + 1, none⟩) HB.out _).drew), H3.out.2⟩
          · have e2 : shQ n p q = Bd.swp q k := by unfold shQ; rw [hi]
            rw [e2]
            refine ⟨(((HQ3.out.1.set k _).set (k + 1) _).drew).congr fun j hj => ?_, Bd.swp_mem HN.out HQ.out.2 hk⟩
            have e := (Bd.perm_then HN.out HQ.out.2 hk hj).2
            simp only [cellsOf, e]
            split
            · rfl
            · split <;> rfl
          · exact (((hfr.setCell (a := ⟨c, k, none⟩) (.inl (.inr rfl)) _).setCell (a := ⟨c, k + 1, none⟩) (.inl (.inr rfl)) _).drew)
      · rw [Bool.not_eq_true] at hs
        rw [hs] at s1
        have S1 := Lib.hid s1
        have HS := Lib.hid hs
        clear s1 hs
        go_wp2_with fail
        refine S1.out.mono ?_
        rintro e w1 ⟨rfl, h1⟩
        have H1 := Lib.hid h1
        clear h1
        go_wp2
        go_roundw
        case rel =>
          refine ⟨k + 1, by omega, by omega, by go_num, Lib.hid (Fr.trans HW.out H1.out), Lib.hid fun i a b => ?_⟩
          by_cases hik : i = k
          · subst hik; simp [HS.out]
          · exact HK.out i a (by omega)
        case measure => simp [intOf]; omega
    · go_wp2_with fail
      go_ret
      have hi := firstI_none (n := n) (p := p) (q := q) fun i a b => HK.out i a (by omega)
      have e1 : shP n p q = p := by unfold shP; rw [hi]
      have e2 : shQ n p q = q := by unfold shQ; rw [hi]
      rw [hi, e1, e2]
      exact ⟨rfl, HPr.out, HQr.out, Fr.mono HW.out fun _ x => x.elim⟩
end Go.Proofs.Ytlnmboiangnpfaa
