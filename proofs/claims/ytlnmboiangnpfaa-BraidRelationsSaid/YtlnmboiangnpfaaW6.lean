/- Walks over lists of numbers: copies, and reciprocals. -/
import Derived.Test.YtlnmboiangnpfaaW5
import Derived.Test.YtlnmboiangnpfaaMFr
namespace Go.Proofs.Ytlnmboiangnpfaa
open Go.RowKit

/- a call that hands back numbers in new memory -/
def GaveInts (xs : List Int) (w : World) (e : Ending) (w' : World) : Prop :=
  ∃ a c, e = .returned (.slice a xs.length c) ∧ IntsAt w' a xs ∧ (∀ b o, a = some ⟨b, o, none⟩ → w.heap.size ≤ b) ∧ New w w'

theorem addr_add (b o j : Nat) : (⟨b, o, none⟩ : Addr).add j = ⟨b, o + j, none⟩ := by
  unfold Addr.add
  split
  · next h => subst h; rfl
  · rfl
def ints (xs : List Int) : List Value := xs.map (Value.int .i64)
theorem ints_length (xs : List Int) : (ints xs).length = xs.length := by simp [ints]
theorem ints_one (xs : List Int) : ∀ u ∈ ints xs, u.oneCell' = true := by
  intro u hu
  obtain ⟨x, _, rfl⟩ := List.mem_map.1 hu
  rfl
theorem ints_get {xs : List Int} {j : Nat} {u : Value} (h : (ints xs)[j]? = some u) : j < xs.length ∧ u = .int .i64 (xs.getD j 0) := by
  rw [ints, List.getElem?_map] at h
  cases e : xs[j]? with
  | none => rw [e] at h; cases h
  | some x =>
    rw [e] at h
    cases h
    exact ⟨(List.getElem?_eq_some_iff.1 e).1, by rw [List.getD_eq_getElem?_getD, e]; rfl⟩
theorem IntsAt.news {w : World} {ad : Addr} {xs : List Int} (h : IntsAt w (some ad) xs) : ∀ j u, (ints xs)[j]? = some u → w.cell? (ad.add j) = some u := by
  intro j u hu
  obtain ⟨hj, rfl⟩ := ints_get hu
  obtain ⟨b, o, e, hc⟩ := h.at hj
  cases e
  rw [addr_add]; exact hc
theorem IntsAt.of_owns {w : World} {base : Nat} {v : Value} {xs : List Int} (h : w.ownsRow base 3 1 v xs.length (ints xs)) : ∃ a c, v = .slice a xs.length c ∧ IntsAt w a xs ∧ (∀ b o, a = some ⟨b, o, none⟩ → base ≤ b) := by
  rcases h.2 with ⟨rfl, h0⟩ | ⟨g, cap, cur, rfl, hb, hg, hn, hc, hs, ht⟩
  · rw [h0]
    exact ⟨none, 0, rfl, .inl (List.length_eq_zero_iff.1 h0), fun _ _ e => by cases e⟩
  · refine ⟨_, cap, rfl, .inr ⟨g, 0, rfl, fun i hi => ?_⟩, fun b o e => by cases e; exact hb⟩
    have := World.ownsRow.cells h (g := g) rfl i (.int .i64 (xs.getD i 0)) (by rw [ints, List.getElem?_map, List.getElem?_eq_getElem hi]; simp [List.getD_eq_getElem?_getD, List.getElem?_eq_getElem hi])
    rwa [addr_add] at this
theorem IntsAt.of_row {w : World} {b n : Nat} {f : Nat → Value} {xs : List Int} (h : w.rowIs b 3 n f) (hl : xs.length = n) (hf : ∀ i, i < n → f i = .int .i64 (xs.getD i 0)) : IntsAt w (some ⟨b, 0, none⟩) xs :=
  .inr ⟨b, 0, rfl, fun i hi => by rw [Nat.zero_add, h.cell (by omega), hf i (by omega)]⟩

set_option maxHeartbeats 400000 in
theorem clone_any (a : Option Addr) (c : Nat) (xs : List Int) (w : World) (hx : IntsAt w a xs) (lx : xs.length ≤ 4000000000) :
    Calls Try.prog 30 #[.slice a xs.length c] w (GaveInts xs w) := by
  have hnil := fun (w : World) (a : Option Addr) (n c n' c' : Nat) => Lib.run_eql_slice_nil (P := Try.prog) w 22 3 a n c n' c' Try.underlying22
  have HX := Lib.hid hx
  clear hx
  cases a with
  | none =>
    have hx0 : xs = [] := by
      rcases HX.out with h | ⟨b, o, e, _⟩
      · exact h
      · cases e
    subst hx0
    go_enter Try.func30, Try.ntmps30
    go_wp2
    go_ret
    exact ⟨none, 0, rfl, .inl rfl, (fun _ _ e => by cases e), Fr.refl _ _⟩
  | some ad =>
    obtain ⟨i0, hi, hz0, hz1, hz2⟩ := info_parts Try.info3
    go_enter Try.func30, Try.ntmps30
    go_wp2_with (at_builtin; refine wpList_append_own _ rfl _ _ 22 rfl w.heap.size 3 i0 (.int .i64 0) 1 8 Try.underlying22 hi hz0 hz1 hz2 rfl (by decide) _ 0 [] rfl (World.ownsRow_made _ _ _ ?c0 ?c0b ?c0c) ad xs.length c (ints xs) rfl ?c1 ?c2 ?c3 ?c4 ?c5 ?c6 ?_)
    case c0 => exact Nat.le_refl _
    case c0b => exact Nat.zero_le _
    case c0c => rfl
    case c1 => rw [ints_length, Nat.mul_one]
    case c2 => exact (New.ints ((Fr.refl _ _).alloc _) HX.out).news
    case c3 => exact ints_one xs
    case c4 => unfold maxLen; omega
    case c5 => omega
    case c6 => simp
    intro v' w1 hown hgrow _
    have hfr : New w w1 := ((Fr.refl (fun _ => False) w).alloc (.cells #[] 3)).grown hgrow fun k e => by
      right
      simp only [Value.ownBlock, Option.some.injEq] at e
      omega
    obtain ⟨a', c', rfl, h1, h2⟩ := IntsAt.of_owns hown
    have H1 := Lib.hid h1
    have H2 := Lib.hid h2
    have HF := Lib.hid hfr
    clear hown hgrow h1 h2 hfr
    go_wp2
    go_ret
    exact ⟨a', c', rfl, H1.out, H2.out, HF.out⟩

set_option maxHeartbeats 400000 in
theorem clonePerm_any (a : Option Addr) (c : Nat) (xs : List Int) (w : World) (hx : IntsAt w a xs) (lx : xs.length ≤ 4000000000) :
    Calls Try.prog 18 #[.slice a xs.length c] w (GaveInts xs w) := by
  have hnil := fun (w : World) (a : Option Addr) (n c n' c' : Nat) => Lib.run_eql_slice_nil (P := Try.prog) w 41 3 a n c n' c' Try.underlying41
  have HX := Lib.hid hx
  clear hx
  cases a with
  | none =>
    have hx0 : xs = [] := by
      rcases HX.out with h | ⟨b, o, e, _⟩
      · exact h
      · cases e
    subst hx0
    go_enter Try.func18, Try.ntmps18
    go_wp2
    go_ret
    exact ⟨none, 0, rfl, .inl rfl, (fun _ _ e => by cases e), Fr.refl _ _⟩
  | some ad =>
    obtain ⟨i0, hi, hz0, hz1, hz2⟩ := info_parts Try.info3
    go_enter Try.func18, Try.ntmps18
    go_wp2_with (at_builtin; refine wpList_append_own _ rfl _ _ 41 rfl w.heap.size 3 i0 (.int .i64 0) 1 8 Try.underlying41 hi hz0 hz1 hz2 rfl (by decide) _ 0 [] rfl (World.ownsRow_made _ _ _ ?c0 ?c0b ?c0c) ad xs.length c (ints xs) rfl ?c1 ?c2 ?c3 ?c4 ?c5 ?c6 ?_)
    case c0 => exact Nat.le_refl _
    case c0b => exact Nat.zero_le _
    case c0c => rfl
    case c1 => rw [ints_length, Nat.mul_one]
    case c2 => exact (New.ints ((Fr.refl _ _).alloc _) HX.out).news
    case c3 => exact ints_one xs
    case c4 => unfold maxLen; omega
    case c5 => omega
    case c6 => simp
    intro v' w1 hown hgrow _
    have hfr : New w w1 := ((Fr.refl (fun _ => False) w).alloc (.cells #[] 3)).grown hgrow fun k e => by
      right
      simp only [Value.ownBlock, Option.some.injEq] at e
      omega
    obtain ⟨a', c', rfl, h1, h2⟩ := IntsAt.of_owns hown
    have H1 := Lib.hid h1
    have H2 := Lib.hid h2
    have HF := Lib.hid hfr
    clear hown hgrow h1 h2 hfr
    go_wp2
    go_ret
    exact ⟨a', c', rfl, H1.out, H2.out, HF.out⟩


theorem rinv_get {xs : List Int} {k : Nat} (hk : k < xs.length) : (Bd.rinv xs).getD k 0 = -xs.getD (xs.length - 1 - k) 0 := by
  simp only [Bd.rinv, List.getD_eq_getElem?_getD]
  rw [List.getElem?_reverse (by simpa using hk), List.getElem?_map]
  simp only [List.length_map]
  rw [List.getElem?_eq_getElem (by omega)]
  simp
theorem rinv_length (xs : List Int) : (Bd.rinv xs).length = xs.length := by simp [Bd.rinv]

set_option maxHeartbeats 400000 in
theorem reciprocal_any (a : Option Addr) (c : Nat) (xs : List Int) (w : World) (hx : IntsAt w a xs) (lx : xs.length ≤ 4000000000) (hs : Small xs) :
    Calls Try.prog 29 #[.slice a xs.length c] w (GaveInts (Bd.rinv xs) w) := by
  have HX := Lib.hid hx
  have HS := Lib.hid hs
  clear hx hs
  have hmk := run_make_row' (P := Try.prog) 22 3 (.int .i64 0) 8 Try.underlying22 Try.info3 rfl .i64 .i64 xs.length (by omega) (by omega)
  have hr := World.rowIs_made w (.int .i64 0) xs.length 3
  obtain ⟨B, HB⟩ : ∃ B, Hid (B = w.heap.size) := ⟨_, Lib.hid rfl⟩
  obtain ⟨w1, HW1⟩ : ∃ w1, Hid (w1 = w.alloc (.cells (madeCells #[.int .i64 0] xs.length) 3)) := ⟨_, Lib.hid rfl⟩
  have hf1 : New w w1 := by rw [HW1.out]; exact (Fr.refl _ _).alloc _
  rw [← HB.out, ← HW1.out] at hr
  have HR := Lib.hid hr
  have HF := Lib.hid hf1
  clear hr hf1
  go_enter Try.func29, Try.ntmps29
  go_wp2
  rw [← HB.out, ← HW1.out]
  clear hmk
  go_loopw [4, 5, 11] (fun _ _ i wr => ∃ k : Nat, k ≤ xs.length ∧ i = .int .i64 k ∧ Hid (wr.rowIs B 3 xs.length (fun j => .int .i64 (if xs.length - k ≤ j then -xs.getD (xs.length - 1 - j) 0 else 0))) ∧ Hid (New w wr)) (fun _ _ i _ => xs.length - (intOf i).toNat)
  case atStart => exact ⟨0, by omega, rfl, Lib.hid (HR.out.congr fun j hj => by rw [if_neg (by omega)]), HF⟩
  case round =>
    obtain ⟨k, hk, rfl, HK, HFr⟩ := hrel
    by_cases hlt : k < xs.length
    · obtain ⟨b, o, rfl, d1⟩ := (New.ints HFr.out HX.out).at hlt
      obtain ⟨x, HXk⟩ : ∃ x, Hid (x = xs.getD k 0) := ⟨_, Lib.hid rfl⟩
      have hb := HS.out.get k
      rw [← HXk.out] at d1 hb
      obtain ⟨t, HT⟩ : ∃ t : Nat, Hid (t = xs.length - 1 - k) := ⟨_, Lib.hid rfl⟩
      have htn : t < xs.length := by have := HT.out; omega
      have hte : (xs.length : Int) - 1 - k = t := by have := HT.out; omega
      have d2 := HK.out.cell htn
      have f2 := HK.out.frozen t
      rw [if_neg (by have := HT.out; omega)] at d2
      go_wp2
      go_roundw
      case rel =>
        have ht := HT.out
        refine ⟨k + 1, by omega, by go_num, Lib.hid ((HK.out.set t _).congr fun j hj => ?_), Lib.hid (HFr.out.setCell (a := ⟨B, t, none⟩) (.inr (by rw [HB.out]; exact Nat.le_refl _)) _)⟩
        by_cases c : j = t
        · subst c
          rw [if_pos rfl, if_pos (by omega), HXk.out]
          congr 3
          omega
        · rw [if_neg c]
          by_cases c2 : xs.length - k ≤ j
          · rw [if_pos c2, if_pos (by omega)]
          · rw [if_neg c2, if_neg (by omega)]
      case measure => simp [intOf]; omega
    · go_wp2
      go_ret
      have hl := rinv_length xs
      refine ⟨some ⟨B, 0, none⟩, xs.length, (by rw [hl]; rfl), IntsAt.of_row HK.out hl fun i hi => ?_, fun b o e => by cases e; rw [HB.out]; exact Nat.le_refl _, HFr.out⟩
      rw [rinv_get hi, if_pos (by omega)]
end Go.Proofs.Ytlnmboiangnpfaa
