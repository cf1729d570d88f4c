/- Walks: Alexander. -/
import Derived.Test.YtcfpdeeipbekfaaQ9
namespace Go.Proofs.Ytcfpdeeipbekfaa
open Go.RowKit Go.Maps

def AlexV (X : List Kn.Cr) (L : Nat) (w : World) (e : Ending) (w' : World) : Prop := New w w' ∧ ∃ v m, e = .returned (.tuple #[v, .int .i64 0]) ∧ Ts w' v m ∧ Pl.size m ≤ 4 ^ X.length ∧ Kn.AlexIs X L m
/- the rows of the table, the first i of them cut -/
structure Cut2 (w5 wr : World) (g cap n' many : Nat) (rows : List Nat) (i : Nat) : Prop where
  row : ∃ F, wr.rowIs g 99 cap F ∧ ∀ j, j < n' → F j = .slice (some ⟨rows.getD j 0, 0, none⟩) (if j < i then many - 1 else many) many
  fr : Fr (fun k => k = g) w5 wr
theorem Cut2.cell {w5 wr : World} {g cap n' many : Nat} {rows : List Nat} {i : Nat} (h : Cut2 w5 wr g cap n' many rows i) (hc : n' ≤ cap) (hi : i < n') : wr.cell? ⟨g, i, none⟩ = some (.slice (some ⟨rows.getD i 0, 0, none⟩) many many) ∧ wr.frozen? ⟨g, i, none⟩ = false := by
  obtain ⟨F, h1, h2⟩ := h.row
  have := h1.cell (i := i) (by omega)
  rw [h2 i hi, if_neg (by omega)] at this
  exact ⟨this, h1.frozen i⟩
theorem Cut2.step {w5 wr : World} {g cap n' many : Nat} {rows : List Nat} {i : Nat} (h : Cut2 w5 wr g cap n' many rows i) : Cut2 w5 (wr.setCell ⟨g, i, none⟩ (.slice (some ⟨rows.getD i 0, 0, none⟩) (many - 1) many)) g cap n' many rows (i + 1) := by
  obtain ⟨F, h1, h2⟩ := h.row
  refine ⟨⟨_, h1.set i _, fun j hj => ?_⟩, h.fr.setCell (a := ⟨g, i, none⟩) (.inl rfl) _⟩
  by_cases c : j = i
  · rw [if_pos c, if_pos (by omega), c]
  · rw [if_neg c, h2 j hj]
    by_cases c2 : j < i
    · rw [if_pos c2, if_pos (by omega)]
    · rw [if_neg c2, if_neg (by omega)]
theorem Cut2.step' {w5 wr : World} {g cap n' many : Nat} {rows : List Nat} {i : Nat} (h : Cut2 w5 wr g cap n' many rows i) {x : Value} (hx : x = .slice (some ⟨rows.getD i 0, 0, none⟩) (many - 1) many) : Cut2 w5 (wr.setCell ⟨g, i, none⟩ x) g cap n' many rows (i + 1) := by
  rw [hx]; exact h.step
theorem Cut2.tab {w w5 wr : World} {g cap n' k many : Nat} {rows : List Nat} {X : List Kn.Cr} {mv : Value} (h : Cut2 w5 wr g cap n' many rows n') (hc : n' ≤ cap) (hm : many = n' + 1) (hk : n' ≤ k) (hT : TbW w w5 mv k many X rows) (hg : ∃ c, w5.heap[g]? = some (.cells c 99 (0, 0))) : TabM wr (.slice (some ⟨g, 0, none⟩) n' cap) n' n' (Pl.ent (Kn.tabA X n' n')) 3 := by
  obtain ⟨F, h1, h2⟩ := h.row
  refine ⟨_, _, rfl, .inr ⟨g, 0, rfl, fun i hi => ⟨.slice (some ⟨rows.getD i 0, 0, none⟩) n' many, ?_, ?_⟩⟩⟩
  · rw [Nat.zero_add, h1.cell (i := i) (by omega), h2 i hi, if_pos hi, hm, Nat.add_sub_cancel]
  · refine ⟨_, _, rfl, .inr ⟨rows.getD i 0, 0, rfl, fun c hcn => ?_⟩⟩
    obtain ⟨f, r1, r2⟩ := (hT.row i (by omega)).fr h.fr fun q hq => by rw [hq]; exact hg
    refine ⟨f c, by rw [Nat.zero_add]; exact r1.cell (by omega), ?_⟩
    rw [Kn.tabA_ent hi hcn]
    exact r2 c (by omega)
theorem TbW.first {w w5 : World} {mv : Value} {k many : Nat} {X : List Kn.Cr} {rows : List Nat} (h : TbW w w5 mv k many X rows) (hk : 1 ≤ k) : ∃ g cap, mv = .slice (some ⟨g, 0, none⟩) k cap ∧ k ≤ cap ∧ w.heap.size ≤ g ∧ (∃ c, w5.heap[g]? = some (.cells c 99 (0, 0))) ∧ Cut2 w5 w5 g cap k many rows 0 := by
  have hl := h.len
  rcases h.own.2 with ⟨_, h0⟩ | ⟨g, cap, cur, rfl, hb, hg, hc, _, hs, ht⟩
  · omega
  · refine ⟨g, cap, rfl, hc, hb, ⟨_, hg⟩, ⟨fun j => cur.toList.getD j undef, ⟨cur, hg, by omega, fun i hi => ?_⟩, fun j hj => ?_⟩, Fr.refl _ _⟩
    · show cur[i]? = some (cur.toList.getD i undef)
      rw [List.getD_eq_getElem?_getD, ← Array.getElem?_toList, List.getElem?_eq_getElem (by simp; omega)]; rfl
    · show cur.toList.getD j undef = _
      rw [if_neg (by omega)]
      have e1 : cur.toList.getD j undef = (cur.toList.take (k * 1)).getD j undef := by
        rw [List.getD_eq_getElem?_getD, List.getD_eq_getElem?_getD, List.getElem?_take_of_lt (by omega)]
      rw [e1, ht, List.getD_eq_getElem?_getD, List.getElem?_map, List.getElem?_eq_getElem (by omega), Option.map_some, Option.getD_some, List.getD_eq_getElem?_getD, List.getElem?_eq_getElem (by omega), Option.getD_some]
theorem dtb_A (X : List Kn.Cr) {n : Nat} (h : n ≤ 10) : DtB (Kn.tabA X n n) n 4 1 where
  n10 := h
  s1 := by decide
  row := fun i _ => Kn.tabA_four X n n i n
  sn := Nat.le_trans (Nat.pow_le_pow_right (by decide) h) (by decide)
  ex := fun i k => Kn.tabA_exps X n n i k
  en := by omega
theorem alex_zero_is {X : List Kn.Cr} {L : Nat} (h : ∀ t, Kn.alexV t X L = 0) : Kn.AlexIs X L [] := ⟨⟨trivial, .inl rfl⟩, fun t _ => by rw [h t]; exact .refl _ _⟩
theorem alex_one_is {X : List Kn.Cr} (h : X.length = 0) : Kn.AlexIs X 1 [(0, 1)] := by
  refine ⟨⟨⟨by decide, fun v hv => by simp at hv, trivial⟩, .inr ⟨1, [], by decide, rfl⟩⟩, fun t _ => ?_⟩
  have e : Pl.ev t [(0, 1)] = 1 := by
    rw [Pl.ev_cons, Pl.ev_nil]
    simp only [Rat.zpow_zero]
    have : ((1 : Int) : Rat) = 1 := rfl
    rw [this]; grind
  rw [e]
  unfold Kn.alexV
  rw [if_pos h, if_pos rfl]
  exact .refl _ _
theorem alex_det_is {X : List Kn.Cr} {n' : Nat} {m a : List Pl.T} (h0 : X.length ≠ 0) (hm : Kn.manyP X = n' + 1) (hn : n' + 1 = X.length ∨ n' = X.length) (h12 : n' ≤ 12) (hi : Pl.Is m (Pl.dt (Kn.tabA X n' n') n' (2 ^ n' - 1))) (ha : NrmOf m a) : Kn.AlexIs X 0 a := by
  refine ⟨ha.1, fun t ht => ?_⟩
  have h1 := ha.2.2 t ht
  have h2 := Kn.tabA_det ht (X := X) h12
  rw [← Pl.ev_congr hi.2] at h2
  refine h1.trans ht ?_
  unfold Kn.alexV
  rw [if_neg h0, if_neg (by omega), hm]
  rcases hn with e | e
  · rw [if_pos e, ← e, Nat.add_sub_cancel]
    exact h2
  · rw [if_neg (by omega), if_pos (by omega), ← e]
    exact h2
theorem form_size : ∀ {m : List Pl.T}, Pl.Form m → m.length ≤ Pl.size m
  | [], _ => Nat.le_refl _
  | t :: m, h => by
    have h1 := form_size h.2.2
    have h2 := h.1
    rw [Pl.size_cons, List.length_cons]; omega
theorem dt_facts {X : List Kn.Cr} {n' : Nat} (h : n' ≤ 10) {m : List Pl.T} (hi : Pl.Is m (Pl.dt (Kn.tabA X n' n') n' (2 ^ n' - 1))) : Exps 1000 m ∧ Pl.size m ≤ 4 ^ n' ∧ m.length ≤ 1000000 ∧ Pl.size m ≤ 100000000000000 := by
  have hB := dtb_A X h
  have h2 := Nat.two_pow_pos n'
  have e1 := hB.exps (s := 2 ^ n' - 1) (by omega)
  have z1 := hB.size (s := 2 ^ n' - 1) (by omega)
  have z2 := Pl.size_form hi.1 hi.2
  have hp : Pl.pp (2 ^ n' - 1) ≤ n' := by
    have h1 : Kn.pop 12 (2 ^ n' - 1) = Kn.pop n' (2 ^ n' - 1) := Pl.pop_up (by omega) (by omega)
    have h3 := Pl.pop_le' n' (2 ^ n' - 1)
    show Kn.pop 12 _ ≤ n'; omega
  have z3 : 4 ^ Pl.pp (2 ^ n' - 1) ≤ 4 ^ n' := Nat.pow_le_pow_right (by decide) hp
  have z4 : 4 ^ n' ≤ 4 ^ 10 := Nat.pow_le_pow_right (by decide) h
  have ex : ∀ u ∈ m, -10 ≤ u.1 ∧ u.1 ≤ 10 := fun u hu => by
    obtain ⟨y, hy, e⟩ := Pl.form_exp hi.1 hi.2 hu
    have := e1 y hy
    omega
  have hl := Pl.form_length (hi := 10) (lo := -10) hi.1 ex
  have z5 : (4 : Nat) ^ 10 ≤ 100000000 := by decide
  exact ⟨fun u hu => by have := ex u hu; omega, by omega, by omega, by omega⟩
set_option maxRecDepth 100000 in
set_option maxHeartbeats 4000000 in
theorem alexander_any (a : Option Addr) (n c : Nat) (X : List Kn.Cr) (L : Nat) (w : World) (hx : CrsAt w a X) (hn : n = X.length) (lx : n ≤ 10) (hL1 : L ≤ 16) (hop : opC X (L : Int) = 0) :
    Calls Try.prog 20 #[.agg #[.slice a n c, .int .i64 L]] w (AlexV X L w) := by
  have HN := Lib.hid hn
  have HX := Lib.hid hx
  have HOP := Lib.hid hop
  have HOK : Hid (Kn.Ok X) := Lib.hid (mayB_ok (by
    unfold opC at hop
    split at hop
    · assumption
    · cases hop)).1
  clear hx hn hop
  go_enter Try.func20, Try.ntmps20
  go_wp2_with fail
  refine (aopen_any a n c X L _ (New.crs ((Fr.refl _ _).alloc _) HX.out) HN.out lx (by omega) (by omega) HOP.out).mono ?_
  rintro e w4 ⟨hF, b, rfl, hs⟩
  have HF : Hid (New w w4) := Lib.hid (((Fr.refl _ _).alloc _).trans hF)
  have HS := Lib.hid hs
  obtain ⟨a0, c0, s0, s1, hcr⟩ := hs.crs
  rw [← HN.out] at s0
  have HCR := Lib.hid hcr
  clear hF hs hcr
  by_cases h0 : n = 0
  · subst h0
    by_cases h1 : L = 1
    · subst h1
      go_wp2_with fail
      go_ret2
      exact ⟨HF.out.alloc _, _, [(0, 1)], rfl, ts_one w4 0 1, by rw [← HN.out]; decide, alex_one_is HN.out.symm⟩
    · have l1 : ¬ (L : Int) = 1 := by omega
      go_wp2_with fail
      go_ret2
      exact ⟨HF.out, _, [], rfl, ⟨none, 0, rfl, .inl rfl⟩, Nat.zero_le _, alex_zero_is fun t => by unfold Kn.alexV; rw [if_pos HN.out.symm, if_neg h1]⟩
  · by_cases h1 : L = 0
    · subst h1
      go_wp2_with fail
      refine (table_any b n X 0 _ HS.out HOK.out HN.out lx).mono ?_
      rintro e w5 ⟨mv, rows, rfl, hT⟩
      obtain ⟨g, cap, rfl, hcap, hglo, hgc, hcut⟩ := hT.first (by omega)
      obtain ⟨m, HMY⟩ : ∃ m, Hid (m = Kn.manyP X) := ⟨_, Lib.hid rfl⟩
      rw [← HMY.out] at hT hcut
      have hm20 : m ≤ 20 := by rw [HMY.out]; have := many_le X; have := HN.out; omega
      have HT := Lib.hid hT
      have HGC := Lib.hid hgc
      have HGL := Lib.hid hglo
      have HN5 : Hid (New w w5) := Lib.hid (HF.out.trans hT.new)
      have HC0 := Lib.hid hcut
      have q0 := (hcut.cell hcap (i := 0) (by omega)).1
      have p0 : 0 < n := by omega
      have p1 : (0 : Int) < (n : Int) := by omega
      clear hT hgc hglo hcut
      by_cases hA : m = n
      · obtain ⟨n', rfl⟩ : ∃ n', n = n' + 1 := ⟨n - 1, by omega⟩
        have HC0 : Hid (Cut2 w5 w5 g cap n' m rows 0) := Lib.hid (by
          obtain ⟨⟨F, h1, h2⟩, h3⟩ := HC0.out
          exact ⟨⟨F, h1, fun j hj => h2 j (by omega)⟩, h3⟩)
        have hc1 : n' ≤ cap := by omega
        have hmN : m = n' + 1 := hA
        have hNn : n' ≤ n' + 1 := by omega
        have hk0 : (0 : Int) ≤ (m : Int) - 1 := by omega
        go_wp2_with fail
        go_loopw [68] (fun i wr => ∃ k : Nat, k ≤ n' ∧ i = .int .i64 k ∧ Hid (Cut2 w5 wr g cap n' m rows k)) (fun i _ => n' - (intOf i).toNat)
        case atStart => exact ⟨0, by omega, rfl, HC0⟩
        case round =>
          obtain ⟨k, hk, rfl, HC⟩ := hrel
          by_cases hkn : k < n'
          · obtain ⟨q1, q2⟩ := HC.out.cell hc1 hkn
            have i1 : (0 : Int) ≤ (k : Int) := by omega
            have i2 : (k : Int) < (n' : Int) := by omega
            go_wp2_with fail
            go_roundw
            case rel => exact ⟨k + 1, by omega, by go_num, Lib.hid (HC.out.step' (by rw [hmN, List.getD_eq_getElem?_getD]; rfl))⟩
            case measure => simp [intOf]; omega
          · obtain rfl : k = n' := by omega
            go_wp2_with fail
            refine (det_any _ (Kn.tabA X k k) k 4 1 3 wr (HC.out.tab hc1 hmN hNn HT.out HGC.out) (dtb_A X (by omega)) (by omega)).mono ?_
            rintro e w6 ⟨v6, rfl, hw6, hn6⟩
            have HN6 : Hid (New w w6) := Lib.hid ((HN5.out.next HC.out.fr fun i hi => .inr (by rw [hi]; exact Nat.le_trans HF.out.size HGL.out)).trans hn6)
            have HW6 := Lib.hid hw6
            clear hw6 hn6
            go_wp2_with fail
            refine (form_any v6 _ (2 * (k * 1) + 1) _ HW6.out (by omega)).mono ?_
            rintro e w7 ⟨f, hf, v7, rfl, hts, hn7⟩
            have HN7 : Hid (New w w7) := Lib.hid (HN6.out.trans hn7)
            have HFF := Lib.hid hf
            have HTS := Lib.hid hts
            clear hf hts hn7
            go_wp2_with fail
            refine (normal_any v7 f _ HTS.out HFF.out.1 (dt_facts (by omega) HFF.out).2.2.1 (dt_facts (by omega) HFF.out).1 (dt_facts (by omega) HFF.out).2.2.2).mono ?_
            rintro e w8 ⟨v8, r, rfl, hts, hn8, hnr⟩
            have HTR := Lib.hid hts
            have HN8 : Hid (New w w8) := Lib.hid (HN7.out.trans hn8)
            have HNR := Lib.hid hnr
            clear hts hn8 hnr
            go_wp2_with fail
            go_ret2
            refine ⟨HN8.out, v8, r, rfl, HTR.out, ?_, alex_det_is (n' := k) (m := f) (by rw [← HN.out]; omega) (by rw [← HMY.out]; omega) (by rw [← HN.out]; omega) (by omega) HFF.out HNR.out⟩
            rw [HNR.out.2.1, ← HN.out]
            exact Nat.le_trans (dt_facts (by omega) HFF.out).2.1 (Nat.pow_le_pow_right (by decide) (by omega))
      · by_cases hB : m = n + 1
        · have hc1 : n ≤ cap := hcap
          have hmN : m = n + 1 := hB
          have hNn : n ≤ n := Nat.le_refl _
          have b1 : ¬ (m : Int) = (n : Int) := by omega
          have b2 : (m : Int) = (n : Int) + 1 := by omega
          have hk0 : (0 : Int) ≤ (m : Int) - 1 := by omega
          go_wp2_with fail
          go_loopw [68] (fun i wr => ∃ k : Nat, k ≤ n ∧ i = .int .i64 k ∧ Hid (Cut2 w5 wr g cap n m rows k)) (fun i _ => n - (intOf i).toNat)
          case atStart => exact ⟨0, by omega, rfl, HC0⟩
          case round =>
            obtain ⟨k, hk, rfl, HC⟩ := hrel
            by_cases hkn : k < n
            · obtain ⟨q1, q2⟩ := HC.out.cell hc1 hkn
              have i1 : (0 : Int) ≤ (k : Int) := by omega
              have i2 : (k : Int) < (n : Int) := by omega
              go_wp2_with fail
              go_roundw
              case rel => exact ⟨k + 1, by omega, by go_num, Lib.hid (HC.out.step' (by rw [hmN, List.getD_eq_getElem?_getD]; rfl))⟩
              case measure => simp [intOf]; omega
            · obtain rfl : k = n := by omega
              go_wp2_with fail
              refine (det_any _ (Kn.tabA X k k) k 4 1 3 wr (HC.out.tab hc1 hmN hNn HT.out HGC.out) (dtb_A X (by omega)) (by omega)).mono ?_
              rintro e w6 ⟨v6, rfl, hw6, hn6⟩
              have HN6 : Hid (New w w6) := Lib.hid ((HN5.out.next HC.out.fr fun i hi => .inr (by rw [hi]; exact Nat.le_trans HF.out.size HGL.out)).trans hn6)
              have HW6 := Lib.hid hw6
              clear hw6 hn6
              go_wp2_with fail
              refine (form_any v6 _ (2 * (k * 1) + 1) _ HW6.out (by omega)).mono ?_
              rintro e w7 ⟨f, hf, v7, rfl, hts, hn7⟩
              have HN7 : Hid (New w w7) := Lib.hid (HN6.out.trans hn7)
              have HFF := Lib.hid hf
              have HTS := Lib.hid hts
              clear hf hts hn7
              go_wp2_with fail
              refine (normal_any v7 f _ HTS.out HFF.out.1 (dt_facts (by omega) HFF.out).2.2.1 (dt_facts (by omega) HFF.out).1 (dt_facts (by omega) HFF.out).2.2.2).mono ?_
              rintro e w8 ⟨v8, r, rfl, hts, hn8, hnr⟩
              have HTR := Lib.hid hts
              have HN8 : Hid (New w w8) := Lib.hid (HN7.out.trans hn8)
              have HNR := Lib.hid hnr
              clear hts hn8 hnr
              go_wp2_with fail
              go_ret2
              refine ⟨HN8.out, v8, r, rfl, HTR.out, ?_, alex_det_is (n' := k) (m := f) (by rw [← HN.out]; omega) (by rw [← HMY.out]; omega) (by rw [← HN.out]; omega) (by omega) HFF.out HNR.out⟩
              rw [HNR.out.2.1, ← HN.out]
              exact Nat.le_trans (dt_facts (by omega) HFF.out).2.1 (Nat.pow_le_pow_right (by decide) (by omega))
        · have b1 : ¬ (m : Int) = (n : Int) := by omega
          have b2 : ¬ (m : Int) = (n : Int) + 1 := by omega
          go_wp2_with fail
          go_ret2
          exact ⟨HN5.out, _, [], rfl, ⟨none, 0, rfl, .inl rfl⟩, Nat.zero_le _, alex_zero_is fun t => by
            unfold Kn.alexV
            rw [if_neg (by rw [← HN.out]; exact h0), if_neg (by omega), if_neg (by rw [← HN.out, ← HMY.out]; exact hA), if_neg (by rw [← HN.out, ← HMY.out]; exact hB)]⟩
    · have l1 : (0 : Int) < (L : Int) := by omega
      go_wp2_with fail
      go_ret2
      exact ⟨HF.out, _, [], rfl, ⟨none, 0, rfl, .inl rfl⟩, Nat.zero_le _, alex_zero_is fun t => by
        unfold Kn.alexV
        rw [if_neg (by rw [← HN.out]; exact h0), if_pos (by omega)]⟩
end Go.Proofs.Ytcfpdeeipbekfaa
