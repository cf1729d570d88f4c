/- Walks: alex.open, Normal. -/
import Derived.Deep.RegionHeld3
import Derived.Test.YtcfpdeeipbekfaaQ6
import Derived.Test.YtcfpdeeipbekfaaMAlld
namespace Go.Proofs.Ytcfpdeeipbekfaa
open Go.RowKit Go.Maps

set_option maxRecDepth 100000 in
set_option maxHeartbeats 1000000 in
theorem aopen_any (a : Option Addr) (n c : Nat) (X : List Kn.Cr) (L : Int) (w : World) (hx : CrsAt w a X) (hn : n = X.length) (lx : n ≤ 10) (l1 : -9223372036854775808 ≤ L) (l2 : L ≤ 9223372036854775807) (hop : opC X L = 0) :
    Calls Try.prog 32 #[.agg #[.slice a n c, .int .i64 L]] w (fun e w' => New w w' ∧ ∃ b, e = .returned (.tuple #[.pointer (some ⟨b, 0, none⟩), .int .i64 0]) ∧ ShAt w' b X L) := by
  have HN := Lib.hid hn
  have HX := Lib.hid hx
  have HOP := Lib.hid hop
  clear hx hn hop
  go_enter Try.func32, Try.ntmps32
  go_wp2_with fail
  refine (open_any a n c X L _ (New.crs ((Fr.refl _ _).alloc _) HX.out) HN.out (by omega) l1 l2).mono ?_
  rintro e w4 ⟨hF, h5⟩
  rcases h5 with ⟨_, b, rfl, hs⟩ | ⟨ho, rfl⟩
  · have HF : Hid (New w w4) := Lib.hid (((Fr.refl _ _).alloc _).trans hF)
    have HS := Lib.hid hs
    obtain ⟨a1, c1, h0, _, _⟩ := hs.crs
    rw [← HN.out] at h0
    clear hF hs
    go_wp2
    go_ret2
    exact ⟨HF.out, b, rfl, HS.out⟩
  · exact absurd HOP.out ho
def NrmOf (m a : List Pl.T) : Prop := Pl.Nrm a ∧ Pl.size a = Pl.size m ∧ ∀ t : Rat, t ≠ 0 → Kn.Eu t (Pl.ev t a) (Pl.ev t m)
set_option maxRecDepth 100000 in
set_option maxHeartbeats 1000000 in
theorem normal_any (v : Value) (m : List Pl.T) (w : World) (hx : Ts w v m) (hf : Pl.Form m) (hl : m.length ≤ 1000000) (he : Exps 1000 m) (hs : Pl.size m ≤ 100000000000000) :
    Calls Try.prog 34 #[v] w (fun e w' => ∃ v' a, e = .returned v' ∧ Ts w' v' a ∧ New w w' ∧ NrmOf m a) := by
  have HTS := Lib.hid hx
  obtain ⟨a, c, rfl, hx⟩ := hx
  obtain ⟨n, hn⟩ : ∃ n, n = m.length := ⟨_, rfl⟩
  rw [← hn] at hl HTS ⊢
  have HN := Lib.hid hn
  have HX := Lib.hid hx
  have HE := Lib.hid he
  have HS := Lib.hid hs
  have HF := Lib.hid hf
  clear hn hx he hs hf
  by_cases hn0 : n = 0
  · have hm : m = [] := List.length_eq_zero_iff.1 (HN.out.symm.trans hn0)
    subst hn0
    go_enter Try.func34, Try.ntmps34
    go_wp2
    go_ret
    subst hm
    exact ⟨_, [], rfl, ⟨none, 0, rfl, .inl rfl⟩, Fr.refl _ _, ⟨trivial, .inl rfl⟩, rfl, fun t ht => .refl _ _⟩
  · have hlen : 0 < m.length := by have := HN.out; omega
    obtain ⟨b, o, rfl, d1, d2⟩ := HX.out.at hlen
    obtain ⟨u, r, hm⟩ : ∃ u r, m = u :: r := by
      cases hmm : m with
      | nil => rw [hmm] at hlen; simp at hlen
      | cons u r => exact ⟨u, r, rfl⟩
    have hg : m.getD 0 (0, 0) = u := by rw [hm]; rfl
    rw [hg] at d1 d2
    obtain ⟨ex, co⟩ := u
    have he1 := HE.out (ex, co) (by rw [hm]; exact List.mem_cons_self)
    have HM := Lib.hid hm
    obtain ⟨e1, e2⟩ := he1
    have e1' : -1000 ≤ ex := e1
    have e2' : ex ≤ 1000 := e2
    have hz := Pl.co_le' HS.out
    have HZ := Lib.hid hz
    have i0 : (0 : Int) < (n : Int) := by omega
    have i1 : 0 < n := by omega
    have i2 : IntKind.i64.wrap (-ex) = -ex := IntWalk.i64_in _ (by omega)
    clear hm hg hlen e1 e2 hz
    rw [Nat.zero_mul, Nat.add_zero] at d1
    have HTC : Hid (w.cell? ⟨b, o, none⟩ = some (.int .i64 ex)) := Lib.hid d1
    have key : Hid (∀ s : Int, (if co < 0 then (-1 : Int) else 1) = s → ∀ a, Pl.Is a (sh (-ex) s m) → NrmOf m a) := Lib.hid fun s e a ha => Kn.norm_of HF.out HM.out (by rw [e]; exact ha)
    by_cases hco : co < 0
    · have HK := Lib.hid fun a => key.out (-1) (if_pos hco) a
      go_enter Try.func34, Try.ntmps34
      go_wp2_with fail
      clear d2 hco key
      go_region_held3 (fun wz => wz.cell? ⟨b, o, none⟩ = some (.int .i64 ex)) (first | assumption | exact (Fr.refl (fun _ => False) w).drew.cell HTC.out (fun x => x)) (first
        | (go_at_call 53; refine (of_any _ m _ (New.ts ((Fr.refl _ w).drew) HTS.out) (by have := HN.out; omega) (HE.out.mono (by omega)) (by have := HS.out; omega)).mono ?_; rintro e wa ⟨u, rfl, hu, hn1⟩; have q1 := hn1.cell (w := w.drew) ((Fr.refl (fun _ => False) w).drew.cell HTC.out (fun x => x)) (fun x => x))
        | (go_at_call 54; refine (shiftW_any u (-ex) (-1) m m.length _ hu (by omega) (by omega) (by have := HN.out; omega) (HE.out.mono (by omega)) HS.out).mono ?_; rintro e wb ⟨u2, rfl, hu2, hn2⟩; have q2 := hn2.cell q1 (fun x => x))
        | (go_at_call 36; refine (form_any u2 (sh (-ex) (-1) m) m.length _ hu2 (by have := HN.out; omega)).mono ?_; rintro e wc ⟨a, ha, u3, rfl, hu3, hn3⟩; have q3 := hn3.cell q2 (fun x => x)))
      all_goals (go_wp2_with fail; go_ret; exact ⟨_, a, rfl, hu3, (((Fr.refl (fun _ => False) w).drew.trans hn1).trans (hn2.trans hn3)), HK.out a ha⟩)
    · have HK := Lib.hid fun a => key.out 1 (if_neg hco) a
      go_enter Try.func34, Try.ntmps34
      go_wp2_with fail
      clear d2 hco key
      go_region_held3 (fun wz => wz.cell? ⟨b, o, none⟩ = some (.int .i64 ex)) (first | assumption | exact (Fr.refl (fun _ => False) w).drew.cell HTC.out (fun x => x)) (first
        | (go_at_call 53; refine (of_any _ m _ (New.ts ((Fr.refl _ w).drew) HTS.out) (by have := HN.out; omega) (HE.out.mono (by omega)) (by have := HS.out; omega)).mono ?_; rintro e wa ⟨u, rfl, hu, hn1⟩; have q1 := hn1.cell (w := w.drew) ((Fr.refl (fun _ => False) w).drew.cell HTC.out (fun x => x)) (fun x => x))
        | (go_at_call 54; refine (shiftW_any u (-ex) 1 m m.length _ hu (by omega) (by omega) (by have := HN.out; omega) (HE.out.mono (by omega)) HS.out).mono ?_; rintro e wb ⟨u2, rfl, hu2, hn2⟩; have q2 := hn2.cell q1 (fun x => x))
        | (go_at_call 36; refine (form_any u2 (sh (-ex) 1 m) m.length _ hu2 (by have := HN.out; omega)).mono ?_; rintro e wc ⟨a, ha, u3, rfl, hu3, hn3⟩; have q3 := hn3.cell q2 (fun x => x)))
      all_goals (go_wp2_with fail; go_ret; exact ⟨_, a, rfl, hu3, (((Fr.refl (fun _ => False) w).drew.trans hn1).trans (hn2.trans hn3)), HK.out a ha⟩)
end Go.Proofs.Ytcfpdeeipbekfaa
