/- Walks: OnesCount, Sign, Turns, wind.Open, bracket.open. -/
import Derived.Test.YtdelekkbkpldjaaDoorJ2
namespace Go.Proofs.YtdelekkbkpldjaaDoor
open Go.RowKit

def oc0 (x : Int) : Int := IntKind.u64.wrap (bits BinOp.and IntKind.u64 (x / 2) 6148914691236517205 + bits BinOp.and IntKind.u64 x 6148914691236517205)
def oc1 (x : Int) : Int := IntKind.u64.wrap (bits BinOp.and IntKind.u64 (oc0 x / 4) 3689348814741910323 + bits BinOp.and IntKind.u64 (oc0 x) 3689348814741910323)
def oc2 (x : Int) : Int := bits BinOp.and IntKind.u64 (IntKind.u64.wrap (oc1 x / 16 + oc1 x)) 1085102592571150095
def oc3 (x : Int) : Int := IntKind.u64.wrap (oc2 x + oc2 x / 256)
def oc4 (x : Int) : Int := IntKind.u64.wrap (oc3 x + oc3 x / 65536)
def oc5 (x : Int) : Int := IntKind.u64.wrap (oc4 x + oc4 x / 4294967296)
def oc (x : Int) : Int := bits BinOp.and IntKind.i64 (wrap64 (oc5 x)) 127
theorem oc_all : ((List.range 4096).all fun x => decide (oc ((x : Nat) : Int) = ((Kn.pop 12 x : Nat) : Int))) = true := by decide +kernel
set_option maxRecDepth 100000 in
set_option maxHeartbeats 1000000 in
theorem ones64_any (x : Nat) (hx : x < 4096) (w : World) : Calls Tryd.prog 60 #[.int .u64 x] w fun e w' => e = .returned (.int .i64 (Kn.pop 12 x : Nat)) ∧ New w w' := by
  go_enter Tryd.func60, Tryd.ntmps60
  go_wp2_with fail
  go_ret
  refine ⟨ret_int ?_, Fr.refl _ _⟩
  exact of_decide_eq_true (List.all_eq_true.1 oc_all x (List.mem_range.2 hx))
set_option maxHeartbeats 1000000 in
theorem ones_any (x : Nat) (hx : x < 4096) (w : World) : Calls Tryd.prog 46 #[.int .u64 x] w fun e w' => e = .returned (.int .i64 (Kn.pop 12 x : Nat)) ∧ New w w' := by
  have CC := Lib.hid (ones64_any x hx)
  go_enter Tryd.func46, Tryd.ntmps46
  go_wp2_with (go_at_call 60; refine (CC.out _).mono ?_; rintro e w4 ⟨rfl, hF⟩; have HF := Lib.hid hF; clear hF)
  go_ret
  exact ⟨rfl, HF.out⟩
theorem pop_ext : ∀ {n m st : Nat}, st < 2 ^ n → n ≤ m → Kn.pop m st = Kn.pop n st
  | 0, 0, _, _, _ => rfl
  | 0, m + 1, st, h, _ => by
    obtain rfl : st = 0 := by simpa using h
    show 0 % 2 + Kn.pop m (0 / 2) = 0
    have := pop_ext (n := 0) (m := m) (st := 0) (by simp) (by omega)
    rw [show 0 / 2 = 0 from rfl, this]; rfl
  | n + 1, m + 1, st, h, hm => by
    rw [Kn.pop, Kn.pop, pop_ext (n := n) (m := m) (by rw [Nat.pow_succ] at h; omega) (by omega)]
def sgn (p : Bool) : Int := if p then 1 else -1
def wrt (X : List Kn.Cr) : Int := X.foldr (fun x s => sgn x.p + s) 0
set_option maxHeartbeats 1000000 in
theorem sign_any (a b c d : Int) (p : Bool) (w : World) : Calls Tryd.prog 45 #[.agg #[.int .i64 a, .int .i64 b, .int .i64 c, .int .i64 d, .bool p]] w fun e w' => e = .returned (.int .i64 (sgn p)) ∧ New w w' := by
  cases p
  all_goals
    go_enter Tryd.func45, Tryd.ntmps45
    go_wp2_with fail
    go_ret
    exact ⟨rfl, (Fr.refl _ _).alloc _⟩
theorem wrt_app (X Y : List Kn.Cr) : wrt (X ++ Y) = wrt X + wrt Y := by
  induction X with
  | nil => simp [wrt]
  | cons x X ih => simp only [wrt, List.cons_append, List.foldr_cons] at ih ⊢; rw [ih]; omega
theorem wrt_take {X : List Kn.Cr} {k : Nat} (hk : k < X.length) : wrt (X.take (k + 1)) = wrt (X.take k) + sgn (Kn.cr X k).p := by
  rw [List.take_succ_eq_append_getElem hk, wrt_app]
  unfold Kn.cr
  rw [List.getD_eq_getElem?_getD, List.getElem?_eq_getElem hk]
  simp [wrt]
theorem wrt_le (X : List Kn.Cr) : -(X.length : Int) ≤ wrt X ∧ wrt X ≤ X.length := by
  induction X with
  | nil => simp [wrt]
  | cons x X ih =>
    simp only [wrt, List.foldr_cons, List.length_cons] at ih ⊢
    have : -1 ≤ sgn x.p ∧ sgn x.p ≤ 1 := by cases x.p <;> decide
    omega
set_option maxRecDepth 100000 in
set_option maxHeartbeats 1000000 in
theorem turns_any (b : Nat) (X : List Kn.Cr) (L : Int) (w : World) (h : ShAt w b X L) (hl : X.length ≤ 16) :
    Calls Tryd.prog 21 #[.pointer (some ⟨b, 0, none⟩)] w fun e w' => e = .returned (.int .i64 (wrt X)) ∧ New w w' := by
  obtain ⟨a1, c1, h0, _, hcr⟩ := h.crs
  obtain ⟨n, hn⟩ : ∃ n, n = X.length := ⟨_, rfl⟩
  rw [← hn] at h0 hl
  have HN := Lib.hid hn
  have HCR := Lib.hid hcr
  clear h hn hcr
  go_enter Tryd.func21, Tryd.ntmps21
  go_wp2
  clear h0
  go_loopw [3, 12] (fun sv i wr => ∃ k : Nat, k ≤ n ∧ i = .int .i64 k ∧ sv = .int .i64 (wrt (X.take k)) ∧ Hid (New w wr)) (fun _ i _ => n - (intOf i).toNat)
  case atStart => exact ⟨0, by omega, rfl, by simp [wrt], Lib.hid (Fr.refl _ _)⟩
  case round =>
    obtain ⟨k, hk, rfl, rfl, HF⟩ := hrel
    by_cases hlt : k < n
    · have hkX : k < X.length := by have := HN.out; omega
      obtain ⟨bx, ox, rfl, hx⟩ := HCR.out.at hkX
      obtain ⟨xa, xb, xc, xd, xp, HXC⟩ := Kn.cr_parts' X k
      rw [HXC.out] at hx
      obtain ⟨x1, x2, x3, x4, x5⟩ := HF.out.crAt hx fun x => x
      have hb := wrt_le (X.take k)
      rw [List.length_take] at hb
      obtain ⟨s, HS⟩ : ∃ s, Hid (s = wrt (X.take k)) := ⟨_, Lib.hid rfl⟩
      have HT : Hid (wrt (X.take (k + 1)) = s + sgn xp) := Lib.hid (by rw [wrt_take hkX, HXC.out, HS.out])
      rw [← HS.out] at hb ⊢
      have b1 : -16 ≤ s := by omega
      have b2 : s ≤ 16 := by omega
      have b3 : -1 ≤ sgn xp ∧ sgn xp ≤ 1 := by cases xp <;> decide
      obtain ⟨t, HTT⟩ : ∃ t, Hid (t = sgn xp) := ⟨_, Lib.hid rfl⟩
      rw [← HTT.out] at b3
      obtain ⟨b4, b5⟩ := b3
      have i1 : (0 : Int) ≤ (k : Int) := by omega
      have i2 : (k : Int) < (n : Int) := by omega
      clear hx hb
      go_wp2_with (go_at_call 45; refine (sign_any xa xb xc xd xp _).mono ?_; rintro e w4 ⟨rfl, hF⟩; rw [← HTT.out]; have HE : Hid (New wr w4) := Lib.hid (((Fr.refl _ _).alloc _).trans hF); clear hF)
      go_roundw
      case rel => exact ⟨k + 1, by omega, by go_num, by rw [HT.out, HTT.out], Lib.hid (HF.out.trans HE.out)⟩
      case measure => simp [intOf]; omega
    · obtain rfl : n = k := by omega
      have HE : Hid (X.take n = X) := Lib.hid (List.take_of_length_le (by have := HN.out; omega))
      go_wp2
      go_ret
      exact ⟨ret_int (by rw [HE.out]), HF.out⟩
def GaveOpen (c : Nat) (X : List Kn.Cr) (L : Int) (w : World) (e : Ending) (w' : World) : Prop :=
  New w w' ∧ ((c = 0 ∧ ∃ b, e = .returned (.tuple #[.pointer (some ⟨b, 0, none⟩), .int .i64 0]) ∧ ShAt w' b X L) ∨ (c ≠ 0 ∧ e = .returned (.tuple #[.pointer none, .int .i64 c])))
def opC (X : List Kn.Cr) (L : Int) : Nat := if Kn.mayB X L then (if Kn.planarB X then 0 else 5) else 7
set_option maxRecDepth 100000 in
set_option maxHeartbeats 1000000 in
theorem open_any (a : Option Addr) (n c : Nat) (X : List Kn.Cr) (L : Int) (w : World) (hx : CrsAt w a X) (hn : n = X.length) (lx : n ≤ 9223372036854775807) (l1 : -9223372036854775808 ≤ L) (l2 : L ≤ 9223372036854775807) :
    Calls Tryd.prog 44 #[.agg #[.slice a n c, .int .i64 L]] w (GaveOpen (opC X L) X L w) := by
  have HN := Lib.hid hn
  have HX := Lib.hid hx
  clear hx hn
  go_enter Tryd.func44, Tryd.ntmps44
  go_wp2_with (go_at_call 57; refine (new_any a n c X L _ (New.crs ((Fr.refl _ _).alloc _) HX.out) HN.out lx l1 l2).mono ?_; rintro e w4 ⟨hF, h5⟩; rcases h5 with ⟨ho, b, rfl, hs, _⟩ | ⟨ho, rfl⟩)
  · have HF : Hid (New w w4) := Lib.hid (((Fr.refl _ _).alloc _).trans hF)
    have HO := Lib.hid ho
    have HS := Lib.hid hs
    have HOK := Lib.hid (mayB_ok ho)
    clear hF ho hs
    obtain ⟨p, HP⟩ : ∃ p, Hid (p = Kn.planarB X) := ⟨_, Lib.hid rfl⟩
    have HOC : Hid (opC X L = if p then 0 else 5) := Lib.hid (by unfold opC; rw [HO.out, if_pos rfl, HP.out])
    cases p
    all_goals
      go_wp2_with (go_at_call 58; refine (planar_any b X L _ HS.out HOK.out.1 HOK.out.2).mono ?_; rintro e w5 ⟨rfl, hE⟩; rw [← HP.out]; have HE := Lib.hid hE; clear hE)
      go_ret2
    · exact ⟨HF.out.trans HE.out, .inr ⟨by rw [HOC.out]; decide, by rw [HOC.out]; rfl⟩⟩
    · exact ⟨HF.out.trans HE.out, .inl ⟨by rw [HOC.out]; rfl, b, rfl, New.shAt HE.out HS.out⟩⟩
  · have HF : Hid (New w w4) := Lib.hid (((Fr.refl _ _).alloc _).trans hF)
    have HOC : Hid (opC X L = 7) := Lib.hid (by unfold opC; rw [ho]; rfl)
    clear hF ho
    go_wp2
    go_ret2
    exact ⟨HF.out, .inr ⟨by rw [HOC.out]; decide, by rw [HOC.out]; rfl⟩⟩
end Go.Proofs.YtdelekkbkpldjaaDoor
