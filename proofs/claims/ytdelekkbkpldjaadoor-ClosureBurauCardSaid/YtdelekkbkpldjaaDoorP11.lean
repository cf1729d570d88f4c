/- Words for slices of values and for tables; size. -/
import Derived.Test.YtdelekkbkpldjaaDoorP9
namespace Go.Proofs.YtdelekkbkpldjaaDoor
open Go.RowKit

/- a slice whose elements, one cell each, are the values vs -/
def SlAt (w : World) (v : Value) (vs : List Value) : Prop :=
  ∃ a c, v = .slice a vs.length c ∧ (vs = [] ∨ ∃ b o, a = some ⟨b, o, none⟩ ∧ ∀ i, i < vs.length → w.cell? ⟨b, o + i, none⟩ = some (vs.getD i undef))
def CellsAt (w : World) (a : Option Addr) (vs : List Value) : Prop := vs = [] ∨ ∃ b o, a = some ⟨b, o, none⟩ ∧ ∀ i, i < vs.length → w.cell? ⟨b, o + i, none⟩ = some (vs.getD i undef)
theorem New.cells {w w' : World} (h : New w w') {a : Option Addr} {vs : List Value} (hi : CellsAt w a vs) : CellsAt w' a vs := by
  rcases hi with rfl | ⟨b, o, rfl, hc⟩
  · exact .inl rfl
  · exact .inr ⟨b, o, rfl, fun i hi => h.cell (hc i hi) (fun x => x)⟩
theorem CellsAt.at {w : World} {a : Option Addr} {vs : List Value} (h : CellsAt w a vs) {k : Nat} (hk : k < vs.length) :
    ∃ b o, a = some ⟨b, o, none⟩ ∧ w.cell? ⟨b, o + k, none⟩ = some (vs.getD k undef) := by
  rcases h with rfl | ⟨b, o, rfl, h⟩
  · simp at hk
  · exact ⟨b, o, rfl, h k hk⟩
theorem New.sl {w w' : World} (h : New w w') {v : Value} {vs : List Value} (hi : SlAt w v vs) : SlAt w' v vs := by
  obtain ⟨a, c, rfl, hc⟩ := hi
  exact ⟨a, c, rfl, h.cells hc⟩
def OwnV (base e : Nat) (w : World) (v : Value) (vs : List Value) : Prop := w.ownsRow base e 1 v vs.length vs
theorem OwnV.sl {base e : Nat} {w : World} {v : Value} {vs : List Value} (h : OwnV base e w v vs) : SlAt w v vs := by
  rcases h.2 with ⟨rfl, hn⟩ | ⟨g, cap, cur, rfl, hb, hg, h1, h2, h3, h4⟩
  · have : vs = [] := List.eq_nil_of_length_eq_zero hn
    subst this
    exact ⟨none, 0, rfl, .inl rfl⟩
  · refine ⟨_, _, rfl, .inr ⟨g, 0, rfl, fun i hi => ?_⟩⟩
    rw [cell_of_row w g (0 + i) cur e (0, 0) hg, Nat.zero_add, ← Array.getElem?_toList]
    have h5 : (cur.toList.take (vs.length * 1))[i]? = vs[i]? := by rw [h4]
    rw [List.getElem?_take_of_lt (by omega)] at h5
    rw [h5, List.getD_eq_getElem?_getD, List.getElem?_eq_getElem hi]
    rfl
theorem OwnV.snoc {base e : Nat} {w : World} {v x : Value} {vs : List Value} (h : w.ownsRow base e 1 v (vs.length + 1) (vs ++ [x])) : OwnV base e w v (vs ++ [x]) := by
  unfold OwnV
  rw [List.length_append]
  exact h
/- values and what they stand for, one by one -/
structure ElsP {α : Type} [Inhabited α] (R : Value → α → Prop) (vs : List Value) (l : List α) : Prop where
  len : vs.length = l.length
  at_ : ∀ i, i < l.length → R (vs.getD i undef) (l.getD i default)
section
variable {α : Type} [Inhabited α] {R R' : Value → α → Prop} {vs : List Value} {l : List α}
theorem ElsP.nil : ElsP R [] [] := ⟨rfl, fun i h => by simp at h⟩
theorem ElsP.mono (h : ElsP R vs l) (hR : ∀ v x, R v x → R' v x) : ElsP R' vs l := ⟨h.len, fun i hi => hR _ _ (h.at_ i hi)⟩
theorem ElsP.snoc (h : ElsP R vs l) {v : Value} {x : α} (hx : R v x) : ElsP R (vs ++ [v]) (l ++ [x]) := by
  refine ⟨by rw [List.length_append, List.length_append, h.len]; rfl, fun i hi => ?_⟩
  rw [List.length_append] at hi
  by_cases c : i < l.length
  · have hv : i < vs.length := by rw [h.len]; exact c
    have e1 : (vs ++ [v]).getD i undef = vs.getD i undef := by rw [List.getD_eq_getElem?_getD, List.getD_eq_getElem?_getD, List.getElem?_append_left hv]
    have e2 : (l ++ [x]).getD i default = l.getD i default := by rw [List.getD_eq_getElem?_getD, List.getD_eq_getElem?_getD, List.getElem?_append_left c]
    rw [e1, e2]
    exact h.at_ i c
  · have hi' : i = l.length := by simp at hi; omega
    have e1 : (vs ++ [v]).getD i undef = v := by rw [List.getD_eq_getElem?_getD, hi', ← h.len]; simp
    have e2 : (l ++ [x]).getD i default = x := by rw [List.getD_eq_getElem?_getD, hi']; simp
    rw [e1, e2]
    exact hx
theorem ElsP.app {vs' : List Value} {l' : List α} (h : ElsP R vs l) (h' : ElsP R vs' l') : ElsP R (vs ++ vs') (l ++ l') := by
  refine ⟨by rw [List.length_append, List.length_append, h.len, h'.len], fun i hi => ?_⟩
  rw [List.length_append] at hi
  by_cases c : i < l.length
  · have hv : i < vs.length := by rw [h.len]; exact c
    have e1 : (vs ++ vs').getD i undef = vs.getD i undef := by rw [List.getD_eq_getElem?_getD, List.getD_eq_getElem?_getD, List.getElem?_append_left hv]
    have e2 : (l ++ l').getD i default = l.getD i default := by rw [List.getD_eq_getElem?_getD, List.getD_eq_getElem?_getD, List.getElem?_append_left c]
    rw [e1, e2]
    exact h.at_ i c
  · have hv : vs.length ≤ i := by rw [h.len]; omega
    have e1 : (vs ++ vs').getD i undef = vs'.getD (i - l.length) undef := by rw [List.getD_eq_getElem?_getD, List.getD_eq_getElem?_getD, List.getElem?_append_right hv, h.len]
    have e2 : (l ++ l').getD i default = l'.getD (i - l.length) default := by rw [List.getD_eq_getElem?_getD, List.getD_eq_getElem?_getD, List.getElem?_append_right (by omega)]
    rw [e1, e2]
    exact h'.at_ _ (by omega)
end
/- rows and tables of polynomials -/
def RowT (w : World) (v : Value) (r : List (List Pl.T)) : Prop := ∃ vs, SlAt w v vs ∧ ElsP (Ts w) vs r
def TabT (w : World) (v : Value) (m : List (List (List Pl.T))) : Prop := ∃ vs, SlAt w v vs ∧ ElsP (RowT w) vs m
def RowW (n : Nat) (w : World) (v : Value) (r : List (List Pl.T)) : Prop := ∃ vs, SlAt w v vs ∧ ElsP (fun v l => Wk w v l n) vs r
def TabW (n : Nat) (w : World) (v : Value) (m : List (List (List Pl.T))) : Prop := ∃ vs, SlAt w v vs ∧ ElsP (RowW n w) vs m
theorem New.rowT {w w' : World} (h : New w w') {v : Value} {r : List (List Pl.T)} (hr : RowT w v r) : RowT w' v r := by
  obtain ⟨vs, h1, h2⟩ := hr
  exact ⟨vs, h.sl h1, h2.mono fun _ _ x => h.ts x⟩
theorem New.tabT {w w' : World} (h : New w w') {v : Value} {m : List (List (List Pl.T))} (hr : TabT w v m) : TabT w' v m := by
  obtain ⟨vs, h1, h2⟩ := hr
  exact ⟨vs, h.sl h1, h2.mono fun _ _ x => h.rowT x⟩
/- size -/
theorem size_take_succ {l : List Pl.T} {k : Nat} (hk : k < l.length) : Pl.size (l.take (k + 1)) = Pl.size (l.take k) + (l.getD k (0, 0)).2.natAbs := by
  rw [take_getD hk, Pl.size_app, Pl.size_cons]; rfl
set_option maxHeartbeats 1000000 in
theorem size_any (v : Value) (l : List Pl.T) (w : World) (hx : Ts w v l) (hm : Pl.May l) :
    Calls Tryd.prog 40 #[v] w fun e w' => e = .returned (.int .i64 (Pl.size l)) ∧ New w w' := by
  obtain ⟨a, c, rfl, hx⟩ := hx
  obtain ⟨n, hn⟩ : ∃ n, n = l.length := ⟨_, rfl⟩
  rw [← hn]
  have hn64 : n ≤ 64 := by rw [hn]; exact hm.1
  have HN := Lib.hid hn
  have HX := Lib.hid hx
  have HM := Lib.hid hm
  clear hn hx hm
  go_enter Tryd.func40, Tryd.ntmps40
  go_wp2
  go_loopw [3, 8] (fun s i wr => ∃ k z : Nat, k ≤ n ∧ i = .int .i64 k ∧ s = .int .i64 z ∧ z ≤ 64000000 ∧ Hid (z = Pl.size (l.take k)) ∧ Hid (New w wr)) (fun _ i _ => n - (intOf i).toNat)
  case atStart => exact ⟨0, 0, by omega, rfl, rfl, by omega, Lib.hid rfl, Lib.hid (Fr.refl _ _)⟩
  case round =>
    obtain ⟨k, z, hk, rfl, rfl, hz, HZ, HF⟩ := hrel
    by_cases hlt : k < n
    · have hkl : k < l.length := by have := HN.out; omega
      obtain ⟨b, o, rfl, d1, d2⟩ := (New.terms HF.out HX.out).at hkl
      have hb := may_at HM.out hkl
      have hs := size_take_succ hkl
      have hle := Nat.le_trans (size_take l (k + 1)) (may_size HM.out)
      obtain ⟨e1, H1⟩ : ∃ e, Hid (e = (l.getD k (0, 0)).1) := ⟨_, Lib.hid rfl⟩
      obtain ⟨e2, H2⟩ : ∃ e, Hid (e = (l.getD k (0, 0)).2) := ⟨_, Lib.hid rfl⟩
      rw [← H1.out] at d1
      rw [← H2.out] at d2 hb hs
      rw [hs, ← HZ.out] at hle
      rw [← HZ.out] at hs
      have b3 := hb.2.1.1
      have b4 := hb.2.1.2
      have HS := Lib.hid hs
      clear hb hs
      go_wp2
      go_roundw
      case rel => exact ⟨k + 1, z + e2.natAbs, by omega, by go_num, congrArg (Value.int .i64) (by omega), by omega, Lib.hid (by rw [HS.out]), Lib.hid (Fr.alloc HF.out _)⟩
      case measure => simp [intOf]; omega
    · obtain rfl : k = n := by omega
      go_wp2
      go_ret
      exact ⟨ret_int (by rw [HZ.out, HN.out, List.take_length]), HF.out⟩

/- the closures of Det -/
set_option maxHeartbeats 400000 in
theorem rowLen_any (a a' : Option Addr) (n c c' p : Nat) (w : World) (hp : w.cell? ⟨p, 0, none⟩ = some (.slice a' n c')) :
    Calls Tryd.prog 34 #[.slice a n c, .pointer (some ⟨p, 0, none⟩)] w fun e w' => e = .returned (.bool false) ∧ New w w' := by
  go_enter Tryd.func34, Tryd.ntmps34
  go_wp2
  go_ret
  exact ⟨by simp, Fr.refl _ _⟩
set_option maxHeartbeats 400000 in
theorem notMay_any (v : Value) (l : List Pl.T) (w : World) (hx : Ts w v l) (hm : Pl.May l) :
    Calls Tryd.prog 37 #[v] w fun e w' => e = .returned (.bool false) ∧ New w w' := by
  have CC := Lib.hid (may_any v l w hx hm)
  clear hx hm
  go_enter Tryd.func37, Tryd.ntmps37
  go_wp2_with fail
  refine CC.out.mono ?_
  rintro e w1 ⟨rfl, hn1⟩
  have HN := Lib.hid hn1
  clear hn1
  go_wp2
  go_ret
  exact ⟨rfl, HN.out⟩
set_option maxHeartbeats 400000 in
theorem notBig_any (v : Value) (l : List Pl.T) (w : World) (hx : Ts w v l) (hm : Pl.May l) (hs : Pl.size l ≤ 100) :
    Calls Tryd.prog 39 #[v] w fun e w' => e = .returned (.bool false) ∧ New w w' := by
  have CC := Lib.hid (size_any v l w hx hm)
  obtain ⟨s, HS⟩ : ∃ s, Hid (s = Pl.size l) := ⟨_, Lib.hid rfl⟩
  rw [← HS.out] at CC hs
  clear hx hm
  go_enter Tryd.func39, Tryd.ntmps39
  go_wp2_with fail
  refine CC.out.mono ?_
  rintro e w1 ⟨rfl, hn1⟩
  have HN := Lib.hid hn1
  clear hn1
  have hd : decide ((100 : Int) < (s : Int)) = false := by simp; omega
  go_wp2
  go_ret
  exact ⟨rfl, HN.out⟩

/- each of the row slices is m long; so is what the captured variable holds -/
def RowsLong (w : World) (vs : List Value) (p m : Nat) : Prop := m ≤ 1000 ∧ (∃ a c, w.cell? ⟨p, 0, none⟩ = some (.slice a m c)) ∧ ∀ i, i < vs.length → ∃ a c, vs.getD i undef = .slice a m c
def AllMay (w : World) (vs : List Value) : Prop := ∀ i, i < vs.length → ∃ l, Ts w (vs.getD i undef) l ∧ Pl.May l ∧ Pl.size l ≤ 100

set_option maxHeartbeats 1000000 in
theorem lens_any (v : Value) (vs : List Value) (w : World) (p m : Nat) (hv : SlAt w v vs) (hr : RowsLong w vs p m) (hl : vs.length ≤ 1000) :
    Calls Tryd.prog 53 #[v, .func (.func 34) #[] #[.pointer (some ⟨p, 0, none⟩)]] w fun e w' => e = .returned (.int .i64 (-1)) ∧ New w w' := by
  obtain ⟨a, c, rfl, hx⟩ := hv
  obtain ⟨n, hn⟩ : ∃ n, n = vs.length := ⟨_, rfl⟩
  rw [← hn] at hl ⊢
  have HN := Lib.hid hn
  have HX : Hid (CellsAt w a vs) := Lib.hid hx
  have HR := Lib.hid hr
  clear hn hx hr
  go_enter Tryd.func53, Tryd.ntmps53
  go_wp2
  go_loopw [5, 8] (fun _ i wr => ∃ k : Nat, k ≤ n ∧ i = .int .i64 k ∧ Hid (New w wr)) (fun _ i _ => n - (intOf i).toNat)
  case atStart => exact ⟨0, by omega, rfl, Lib.hid (Fr.refl _ _)⟩
  case round =>
    obtain ⟨k, hk, rfl, HF⟩ := hrel
    by_cases hlt : k < n
    · have hkl : k < vs.length := by have := HN.out; omega
      obtain ⟨b, o, rfl, d1⟩ := (New.cells HF.out HX.out).at hkl
      obtain ⟨a1, c1, ev⟩ := HR.out.2.2 k hkl
      obtain ⟨a2, c2, ep⟩ := HR.out.2.1
      rw [ev] at d1
      have CC := Lib.hid (rowLen_any a1 a2 m c1 c2 p wr (HF.out.cell ep fun x => x))
      clear ev ep
      go_wp2_with fail
      refine CC.out.mono ?_
      rintro e w1 ⟨rfl, hn1⟩
      have HF1 : Hid (New w w1) := Lib.hid (HF.out.trans hn1)
      clear hn1
      go_wp2
      go_roundw
      case rel => exact ⟨k + 1, by omega, by go_num, HF1⟩
      case measure => simp [intOf]; omega
    · go_wp2
      go_ret
      exact ⟨rfl, HF.out⟩
set_option maxHeartbeats 400000 in
theorem lensC_any (v : Value) (vs : List Value) (w : World) (p m : Nat) (hv : SlAt w v vs) (hr : RowsLong w vs p m) (hl : vs.length ≤ 1000) :
    Calls Tryd.prog 33 #[v, .func (.func 34) #[] #[.pointer (some ⟨p, 0, none⟩)]] w fun e w' => e = .returned (.bool false) ∧ New w w' := by
  have CC := Lib.hid (lens_any v vs w p m hv hr hl)
  clear hv hr
  go_enter Tryd.func33, Tryd.ntmps33
  go_wp2_with fail
  refine CC.out.mono ?_
  rintro e w1 ⟨rfl, hn1⟩
  have HN := Lib.hid hn1
  clear hn1
  go_wp2
  go_ret
  exact ⟨rfl, HN.out⟩

set_option maxHeartbeats 1000000 in
theorem mays_any (v : Value) (vs : List Value) (w : World) (hv : SlAt w v vs) (hr : AllMay w vs) (hl : vs.length ≤ 1000) :
    Calls Tryd.prog 55 #[v, .func (.func 37) #[] #[]] w fun e w' => e = .returned (.int .i64 (-1)) ∧ New w w' := by
  obtain ⟨a, c, rfl, hx⟩ := hv
  obtain ⟨n, hn⟩ : ∃ n, n = vs.length := ⟨_, rfl⟩
  rw [← hn] at hl ⊢
  have HN := Lib.hid hn
  have HX : Hid (CellsAt w a vs) := Lib.hid hx
  have HR := Lib.hid hr
  clear hn hx hr
  go_enter Tryd.func55, Tryd.ntmps55
  go_wp2
  go_loopw [5, 8] (fun _ i wr => ∃ k : Nat, k ≤ n ∧ i = .int .i64 k ∧ Hid (New w wr)) (fun _ i _ => n - (intOf i).toNat)
  case atStart => exact ⟨0, by omega, rfl, Lib.hid (Fr.refl _ _)⟩
  case round =>
    obtain ⟨k, hk, rfl, HF⟩ := hrel
    by_cases hlt : k < n
    · have hkl : k < vs.length := by have := HN.out; omega
      obtain ⟨b, o, rfl, d1⟩ := (New.cells HF.out HX.out).at hkl
      obtain ⟨l, ht, hm, hs⟩ := HR.out k hkl
      obtain ⟨x, HXk⟩ : ∃ x, Hid (x = vs.getD k undef) := ⟨_, Lib.hid rfl⟩
      rw [← HXk.out] at d1 ht
      have CC := Lib.hid (notMay_any x l wr (HF.out.ts ht) hm)
      clear ht hm hs
      go_wp2_with fail
      refine CC.out.mono ?_
      rintro e w1 ⟨rfl, hn1⟩
      have HF1 : Hid (New w w1) := Lib.hid (HF.out.trans hn1)
      clear hn1
      go_wp2
      go_roundw
      case rel => exact ⟨k + 1, by omega, by go_num, HF1⟩
      case measure => simp [intOf]; omega
    · go_wp2
      go_ret
      exact ⟨rfl, HF.out⟩
set_option maxHeartbeats 400000 in
theorem maysC_any (v : Value) (vs : List Value) (w : World) (hv : SlAt w v vs) (hr : AllMay w vs) (hl : vs.length ≤ 1000) :
    Calls Tryd.prog 36 #[v, .func (.func 37) #[] #[]] w fun e w' => e = .returned (.bool false) ∧ New w w' := by
  have CC := Lib.hid (mays_any v vs w hv hr hl)
  clear hv hr
  go_enter Tryd.func36, Tryd.ntmps36
  go_wp2_with fail
  refine CC.out.mono ?_
  rintro e w1 ⟨rfl, hn1⟩
  have HN := Lib.hid hn1
  clear hn1
  go_wp2
  go_ret
  exact ⟨rfl, HN.out⟩

set_option maxHeartbeats 1000000 in
theorem bigs_any (v : Value) (vs : List Value) (w : World) (hv : SlAt w v vs) (hr : AllMay w vs) (hl : vs.length ≤ 1000) :
    Calls Tryd.prog 55 #[v, .func (.func 39) #[] #[]] w fun e w' => e = .returned (.int .i64 (-1)) ∧ New w w' := by
  obtain ⟨a, c, rfl, hx⟩ := hv
  obtain ⟨n, hn⟩ : ∃ n, n = vs.length := ⟨_, rfl⟩
  rw [← hn] at hl ⊢
  have HN := Lib.hid hn
  have HX : Hid (CellsAt w a vs) := Lib.hid hx
  have HR := Lib.hid hr
  clear hn hx hr
  go_enter Tryd.func55, Tryd.ntmps55
  go_wp2
  go_loopw [5, 8] (fun _ i wr => ∃ k : Nat, k ≤ n ∧ i = .int .i64 k ∧ Hid (New w wr)) (fun _ i _ => n - (intOf i).toNat)
  case atStart => exact ⟨0, by omega, rfl, Lib.hid (Fr.refl _ _)⟩
  case round =>
    obtain ⟨k, hk, rfl, HF⟩ := hrel
    by_cases hlt : k < n
    · have hkl : k < vs.length := by have := HN.out; omega
      obtain ⟨b, o, rfl, d1⟩ := (New.cells HF.out HX.out).at hkl
      obtain ⟨l, ht, hm, hs⟩ := HR.out k hkl
      obtain ⟨x, HXk⟩ : ∃ x, Hid (x = vs.getD k undef) := ⟨_, Lib.hid rfl⟩
      rw [← HXk.out] at d1 ht
      have CC := Lib.hid (notBig_any x l wr (HF.out.ts ht) hm hs)
      clear ht hm hs
      go_wp2_with fail
      refine CC.out.mono ?_
      rintro e w1 ⟨rfl, hn1⟩
      have HF1 : Hid (New w w1) := Lib.hid (HF.out.trans hn1)
      clear hn1
      go_wp2
      go_roundw
      case rel => exact ⟨k + 1, by omega, by go_num, HF1⟩
      case measure => simp [intOf]; omega
    · go_wp2
      go_ret
      exact ⟨rfl, HF.out⟩
set_option maxHeartbeats 400000 in
theorem bigsC_any (v : Value) (vs : List Value) (w : World) (hv : SlAt w v vs) (hr : AllMay w vs) (hl : vs.length ≤ 1000) :
    Calls Tryd.prog 36 #[v, .func (.func 39) #[] #[]] w fun e w' => e = .returned (.bool false) ∧ New w w' := by
  have CC := Lib.hid (bigs_any v vs w hv hr hl)
  clear hv hr
  go_enter Tryd.func36, Tryd.ntmps36
  go_wp2_with fail
  refine CC.out.mono ?_
  rintro e w1 ⟨rfl, hn1⟩
  have HN := Lib.hid hn1
  clear hn1
  go_wp2
  go_ret
  exact ⟨rfl, HN.out⟩
end Go.Proofs.YtdelekkbkpldjaaDoor
