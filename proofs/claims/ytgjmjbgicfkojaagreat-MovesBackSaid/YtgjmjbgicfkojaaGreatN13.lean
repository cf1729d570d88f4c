/- Walks: take. -/
import Derived.Test.YtgjmjbgicfkojaaGreatN9
import Derived.Test.YtgjmjbgicfkojaaGreatTK
import Derived.ChangeMaps4
/- Walks: take. -/
namespace Go.Proofs.YtgjmjbgicfkojaaGreat
open Go.RowKit

def GaveTake (s : Nat) (Y : List Kn.Cr) (L : Int) (w : World) (e : Ending) (w' : World) : Prop :=
  Fr (fun k => k = s) w w' ∧ ((L ≤ 16 ∧ e = .returned (.tuple #[]) ∧ ∃ a c, w'.cell? ⟨s, 0, none⟩ = some (.slice a Y.length c) ∧ w'.cell? ⟨s, 1, none⟩ = some (.int .i64 L) ∧ CrsAt w' a Y ∧ ∀ ad, a = some ad → w.heap.size ≤ ad.block) ∨ (¬ L ≤ 16 ∧ e = .panicked (wrongP 2)))
theorem takeN_le (X : List Kn.Cr) (gone : Nat → Bool) : Kn.takeN X gone ≤ Kn.nArcs X := ringC_le X _ gone _
theorem ShAt.box {w : World} {b : Nat} {X : List Kn.Cr} {L : Int} (h : ShAt w b X L) : ∃ v bi bo, w.heap[b]? = some (.cells #[v, .int .i64 L, .slice (some ⟨bi, 0, none⟩) (mArcs X) (mArcs X), .slice (some ⟨bo, 0, none⟩) (mArcs X) (mArcs X)] 67 (0, 0)) := by
  obtain ⟨v, bi, bo, base, s⟩ := h
  exact ⟨v, bi, bo, s.blk⟩
theorem four_set2 {W : World} {B t : Nat} {a b c d : Value} (h : W.heap[B]? = some (.cells #[a, b, c, d] t (0, 0))) (a' b' : Value) :
    ((W.setCell ⟨B, 0, none⟩ a').setCell ⟨B, 1, none⟩ b').heap[B]? = some (.cells #[a', b', c, d] t (0, 0)) := by
  unfold World.setCell; simp [Array.getElem?_modify, h]
set_option maxRecDepth 100000 in
set_option maxHeartbeats 4000000 in
theorem take_any (b s g ng cg : Nat) (fv : Value) (gs : List Int) (gone : Nat → Bool) (X : List Kn.Cr) (L : Int) (w : World) (h : BeAt w b s fv X L) (hX : Kn.Ok X) (hl : X.length ≤ 16) (l1 : 0 ≤ L) (l2 : L ≤ 16) (hg : IntsAt w g gs) (hng : ng = gs.length) (hn16 : ng ≤ 16)
    (hgone : ∀ c, c < X.length → gone c = decide ((c : Int) ∈ gs)) :
    Calls Tryz.prog 53 #[.pointer (some ⟨b, 0, none⟩), .slice (some ⟨g, 0, none⟩) ng cg] w (GaveTake s (Kn.takeL X gone) (L + Kn.takeN X gone) w) := by
  have HW := Lib.hid (without_any s g ng cg gs gone X L w h.sh hX hl (by omega) (by omega) hg hng hn16 hgone); have HH := Lib.hid h; obtain ⟨c0, _⟩ := h.c
  obtain ⟨Y, HY⟩ : ∃ Y, Hid (Y = Kn.takeL X gone) := ⟨_, Lib.hid rfl⟩
  obtain ⟨L', HL⟩ : ∃ q : Int, Hid (q = L + (Kn.takeN X gone : Nat)) := ⟨_, Lib.hid rfl⟩
  have hL1 : 0 ≤ L' := by have := HL.out; omega
  have hL2 : L' ≤ 100 := by have h1 := HL.out; have h2 := takeN_le X gone; unfold Kn.nArcs at h2; omega
  rw [← HY.out, ← HL.out] at HW ⊢; clear h hX hg hng hgone
  go_enter Tryz.func53, Tryz.ntmps53
  go_wp2_with fail
  refine HW.out.mono ?_
  rintro e w1 ⟨sc, rfl, hown, hN⟩; obtain ⟨a1, c1, rfl, hcr⟩ := CrsAt.of_owns hown
  obtain ⟨n, HN⟩ : ∃ n, Hid (n = Y.length) := ⟨_, Lib.hid rfl⟩
  rw [← HN.out]; have HN1 : Hid (New w (w1.alloc (.cells #[.slice a1 n c1, .int .i64 L'] 24))) := Lib.hid (hN.alloc _); have HC1 : Hid ((w1.alloc (.cells #[.slice a1 n c1, .int .i64 L'] 24)).ownsRow w.heap.size 75 5 (.slice a1 Y.length c1) Y.length (crCells Y)) := Lib.hid (World.ownsRow.alloc hown _); have HB1 : Hid (BeAt (w1.alloc (.cells #[.slice a1 n c1, .int .i64 L'] 24)) b s fv X L) := Lib.hid (HH.out.new HN1.out); have HZ1 := Lib.hid (heap_alloc_new w1 (.cells #[.slice a1 n c1, .int .i64 L'] 24)); clear hown hN hcr c0; obtain ⟨p0, p1, _, _⟩ := box2_c HZ1.out
  by_cases h16 : L' ≤ 16
  · have hd : decide (L' ≤ 16) = true := decide_eq_true h16
    go_wp2_with fail; refine (need_yes 2 _).mono ?_; rintro e w2 ⟨rfl, hw2⟩; obtain ⟨c0, _⟩ := HB1.out.c; obtain ⟨vs, bi, bo, hbx⟩ := HB1.out.sh.box; rw [← hw2] at HN1 HC1 HB1 HZ1 p0 p1 c0 hbx; clear hw2; obtain ⟨s0, s1, s2, s3, z0, z1, z2, z3⟩ := four_c hbx; have hb2 := four_set2 hbx (.slice a1 n c1) (.int .i64 L')
    have hb1 : (w2.setCell ⟨s, 0, none⟩ (.slice a1 n c1)).heap[s]? = some (.cells #[.slice a1 n c1, .int .i64 L, .slice (some ⟨bi, 0, none⟩) (mArcs X) (mArcs X), .slice (some ⟨bo, 0, none⟩) (mArcs X) (mArcs X)] 67 (0, 0)) := by
      unfold World.setCell; simp [Array.getElem?_modify, hbx]
    obtain ⟨_, y1, _, _, _, x1, _, _⟩ := four_c hb1; have HB2 := Lib.hid hb2; have HNO := Lib.hid (blk_not_own hbx HC1.out (by decide)); clear hb1 hb2 hbx; go_wp2_with fail
    go_region
    all_goals (go_wp2_with fail)
    go_end0
    have hF : Fr (fun k => k = s) w2 ((w2.setCell ⟨s, 0, none⟩ (.slice a1 n c1)).setCell ⟨s, 1, none⟩ (.int .i64 L')).drew := by
      refine Fr.drew (Fr.setCell (Fr.setCell (Fr.refl _ w2) ?_ _) ?_ _) <;> exact .inl rfl
    obtain ⟨m0, m1, _, _⟩ := four_c (show ((w2.setCell ⟨s, 0, none⟩ (.slice a1 n c1)).setCell ⟨s, 1, none⟩ (.int .i64 L')).drew.heap[s]? = _ from HB2.out); obtain ⟨a3, c3, e3, h3⟩ := CrsAt.of_owns (hF.owns HC1.out fun k hk e => HNO.out (e ▸ hk))
    cases e3
    exact ⟨(HN1.out.mono fun _ h => h.elim).trans hF, .inl ⟨h16, rfl, a1, c1, by rw [← HN.out]; exact m0, m1, h3, fun ad e => own_lb HC1.out ad.block (by rw [e]; rfl)⟩⟩
  · have hd : decide (L' ≤ 16) = false := decide_eq_false h16
    go_wp2_with fail; refine (need_no 2 _).mono ?_; rintro e w2 ⟨rfl, rfl⟩; go_wp2
    exact ⟨rfl, HN1.out.mono fun _ h => h.elim, .inr ⟨by omega, rfl⟩⟩
end Go.Proofs.YtgjmjbgicfkojaaGreat

/- Walks: uncurl. -/
namespace Go.Proofs.YtgjmjbgicfkojaaGreat
open Go.RowKit

inductive Out where
  | no (e : Int)
  | ok (Y : List Kn.Cr) (L : Int)
def takeO (X : List Kn.Cr) (L : Int) (gone : Nat → Bool) : Out := if L + (Kn.takeN X gone : Nat) ≤ 16 then .ok (Kn.takeL X gone) (L + (Kn.takeN X gone : Nat)) else .no 2
def curlB (X : List Kn.Cr) (c : Nat) : Bool := (List.range 4).any fun s => decide (Kn.arcN X (c, s) = Kn.arcN X (c, (s + 1) % 4))
def unO (X : List Kn.Cr) (L : Int) (a : Int) : Out := if isCr X a then (if curlB X a.toNat then takeO X L (Kn.only a.toNat) else .no 8) else .no 3
def GaveO (s : Nat) (o : Out) (w : World) (e : Ending) (w' : World) : Prop :=
  Fr (fun k => k = s) w w' ∧ match o with
    | .no x => e = .panicked (wrongP x)
    | .ok Y L => e = .returned (.tuple #[]) ∧ ∃ a c, w'.cell? ⟨s, 0, none⟩ = some (.slice a Y.length c) ∧ w'.cell? ⟨s, 1, none⟩ = some (.int .i64 L) ∧ CrsAt w' a Y ∧ ∀ ad, a = some ad → w.heap.size ≤ ad.block
theorem gaveO_take {s : Nat} {X : List Kn.Cr} {L : Int} {gone : Nat → Bool} {w w1 w' : World} {e : Ending} (hN : New w w1) (h : GaveTake s (Kn.takeL X gone) (L + (Kn.takeN X gone : Nat)) w1 e w') : GaveO s (takeO X L gone) w e w' := by
  refine ⟨(hN.mono fun _ h => h.elim).trans h.1, ?_⟩
  unfold takeO
  rcases h.2 with ⟨h1, h2, h3⟩ | ⟨h1, h2⟩
  · rw [if_pos h1]
    obtain ⟨a, c, k1, k2, k3, k4⟩ := h3
    exact ⟨h2, a, c, k1, k2, k3, fun ad e => Nat.le_trans hN.size (k4 ad e)⟩
  · rw [if_neg h1]; exact h2
abbrev mvV (k a c u v : Int) (ub vb ov : Bool) : Value := .agg #[.int .i64 k, .int .i64 a, .int .i64 c, .int .i64 u, .bool ub, .int .i64 v, .bool vb, .bool ov]
theorem eight_c {W : World} {B t : Nat} {a b c d e f g h : Value} (hb : W.heap[B]? = some (.cells #[a, b, c, d, e, f, g, h] t (0, 0))) :
    W.cell? ⟨B, 0, none⟩ = some a ∧ W.cell? ⟨B, 1, none⟩ = some b ∧ W.cell? ⟨B, 2, none⟩ = some c ∧ W.cell? ⟨B, 3, none⟩ = some d ∧ W.cell? ⟨B, 4, none⟩ = some e ∧ W.cell? ⟨B, 5, none⟩ = some f ∧ W.cell? ⟨B, 6, none⟩ = some g ∧ W.cell? ⟨B, 7, none⟩ = some h :=
  ⟨cell_of_row _ _ 0 _ t (0, 0) hb, cell_of_row _ _ 1 _ t (0, 0) hb, cell_of_row _ _ 2 _ t (0, 0) hb, cell_of_row _ _ 3 _ t (0, 0) hb, cell_of_row _ _ 4 _ t (0, 0) hb, cell_of_row _ _ 5 _ t (0, 0) hb, cell_of_row _ _ 6 _ t (0, 0) hb, cell_of_row _ _ 7 _ t (0, 0) hb⟩
def curlTo (X : List Kn.Cr) (c t : Nat) : Bool := (List.range t).any fun s => decide (Kn.arcN X (c, s) = Kn.arcN X (c, (s + 1) % 4))
theorem curlTo_succ (X : List Kn.Cr) (c t : Nat) : curlTo X c (t + 1) = (curlTo X c t || decide (Kn.arcN X (c, t) = Kn.arcN X (c, (t + 1) % 4))) := by
  unfold curlTo
  rw [List.range_succ, List.any_append]; simp
set_option maxRecDepth 100000 in
set_option maxHeartbeats 8000000 in
theorem uncurl_any (b s : Nat) (fv : Value) (X : List Kn.Cr) (L k a c u v : Int) (ub vb ov : Bool) (w : World) (h : BeAt w b s fv X L) (hX : Kn.Ok X) (hl : X.length ≤ 16) (l1 : 0 ≤ L) (l2 : L ≤ 16) :
    Calls Tryz.prog 28 #[.pointer (some ⟨b, 0, none⟩), mvV k a c u v ub vb ov] w (GaveO s (unO X L a) w) := by
  obtain ⟨r, HR⟩ : ∃ r, Hid (isCr X a = r) := ⟨_, Lib.hid rfl⟩
  have HH := Lib.hid h; have HX := Lib.hid hX; clear h hX
  go_enter Tryz.func28, Tryz.ntmps28
  have hz := heap_alloc_new w (.cells #[.int .i64 k, .int .i64 a, .int .i64 c, .int .i64 u, .bool ub, .int .i64 v, .bool vb, .bool ov] 28); obtain ⟨p0, p1, _⟩ := eight_c hz; have HZ := Lib.hid hz; have HN0 : Hid (New w (w.alloc (.cells #[.int .i64 k, .int .i64 a, .int .i64 c, .int .i64 u, .bool ub, .int .i64 v, .bool vb, .bool ov] 28))) := Lib.hid ((Fr.refl _ w).alloc _); clear hz; go_wp2_with fail; refine (isCross_any b s fv X L a _ (HH.out.new HN0.out) hl).mono ?_; rintro e w1 ⟨rfl, hw1⟩; rw [HR.out]; rw [← hw1] at HN0 HZ p1; clear hw1 p0
  cases r
  · go_wp2_with fail
    refine (need_no 3 _).mono ?_; rintro e w2 ⟨rfl, rfl⟩; go_wp2
    refine ⟨rfl, HN0.out.mono fun _ h => h.elim, ?_⟩
    unfold unO; rw [HR.out]; rfl
  · obtain ⟨cn, rfl, hcn⟩ : ∃ cn : Nat, a = (cn : Int) ∧ cn < X.length := by
      have h1 := HR.out
      unfold isCr at h1
      rw [Bool.and_eq_true, decide_eq_true_eq, decide_eq_true_eq] at h1
      exact ⟨a.toNat, by omega, by omega⟩
    have HU : Hid (unO X L (cn : Nat) = if curlB X cn then takeO X L (Kn.only cn) else .no 8) := Lib.hid (by unfold unO; rw [HR.out]; rfl); go_wp2_with fail; refine (need_yes 3 _).mono ?_; rintro e w2 ⟨rfl, hw2⟩; rw [← hw2] at HN0 HZ p1; clear hw2
    obtain ⟨n, HN⟩ : ∃ n, Hid (n = X.length) := ⟨_, Lib.hid rfl⟩
    have HB2 := Lib.hid (HH.out.new HN0.out); obtain ⟨c0, _⟩ := HB2.out.c; obtain ⟨a1, c1, h0, _, hcr⟩ := HB2.out.sh.crs; obtain ⟨bx, ox, e0, hx⟩ := hcr.at hcn; subst e0; rw [← HN.out] at h0; obtain ⟨xa, xb, xc, xd, xp, HXC⟩ := Kn.cr_parts' X cn; rw [HXC.out] at hx; obtain ⟨x1, x2, x3, x4, x5⟩ := hx
    have i1 : (0 : Int) ≤ (cn : Int) := by omega
    have i2 : (cn : Int) < (n : Int) := by have := HN.out; omega
    have k1 : b < w2.heap.size := World.block_lt_of_cell? _ _ c0; have k2 : s < w2.heap.size := World.block_lt_of_cell? _ _ h0; have k3 : bx < w2.heap.size := World.block_lt_of_cell? _ _ x1; have k4 : w.heap.size < w2.heap.size := World.block_lt_of_cell? _ _ p1
    have k5 : b < w2.heap.size + 1 := by omega
    have k6 : s < w2.heap.size + 1 := by omega
    have k7 : bx < w2.heap.size + 1 := by omega
    have k8 : w.heap.size < w2.heap.size + 1 := by omega
    clear hcr; go_wp2_with fail
    go_cut [4] (fun s4 wx => Hid (s4 = .pointer (some ⟨w2.heap.size, 0, none⟩) ∧ New w2 wx ∧ wx.heap[w2.heap.size]? = some (.cells #[.int .i64 xa, .int .i64 xb, .int .i64 xc, .int .i64 xd, .bool xp] 75 (0, 0))))
    case first =>
      go_region
      all_goals (go_wp2_with fail)
      all_goals go_meet
      exact Lib.hid ⟨rfl, ((Fr.refl _ w2).alloc _).drew, heap_alloc_new w2 _⟩
    case rest =>
    obtain ⟨rfl, hN8, hb8⟩ := Hid.out hcut
    obtain ⟨w3, rfl⟩ : ∃ w3, w3 = wc := ⟨_, rfl⟩
    have HN8 := Lib.hid (HN0.out.trans hN8); have HB8 := Lib.hid hb8; have HZ8 := Lib.hid (hN8.blk HZ.out fun x => x)
    obtain ⟨Bx, HBX⟩ : ∃ B, Hid (B = w2.heap.size) := ⟨_, Lib.hid rfl⟩
    rw [← HBX.out] at HB8 ⊢; clear hcut hN8 hb8 c0 h0 x1 x2 x3 x4 x5 k1 k2 k3 k4 k5 k6 k7 k8 HN0 HZ p1; go_wp2_with fail
    go_loopw [5, 24] (fun cb i wr => ∃ (t : Nat) (q : Bool), t ≤ 4 ∧ i = .int .i64 t ∧ cb = .bool q ∧ Hid (q = curlTo X cn t) ∧ Hid (New w3 wr)) (fun _ i _ => 4 - (intOf i).toNat)
    case atStart => exact ⟨0, false, by omega, rfl, rfl, Lib.hid rfl, Lib.hid (Fr.refl _ _)⟩
    case round =>
      obtain ⟨t, q, ht, rfl, rfl, HC, HNr⟩ := hrel
      by_cases ht4 : t < 4
      · cases q
        · obtain ⟨t2, HT2⟩ : ∃ t2, Hid (t2 = (t + 1) % 4) := ⟨_, Lib.hid rfl⟩
          have ht2 : t2 < 4 := by have := HT2.out; omega
          have ew : (IntKind.i64.wrap ((t : Int) + 1)).tmod 4 = (t2 : Nat) := by
            rw [IntWalk.i64_in _ (by omega), Int.tmod_eq_emod_of_nonneg (by omega)]
            have := HT2.out; omega
          obtain ⟨ua, HUA⟩ : ∃ z, Hid (z = Kn.arcN X (cn, t)) := ⟨_, Lib.hid rfl⟩
          obtain ⟨va, HVA⟩ : ∃ z, Hid (z = Kn.arcN X (cn, t2)) := ⟨_, Lib.hid rfl⟩
          have har : ∀ s, s < 4 → (Kn.cr X cn).arc s = (Kn.arcN X (cn, s) : Nat) := fun s hs => by
            have := (HX.out.rng (cn, s) ⟨hcn, hs⟩).1
            unfold Kn.arcN
            show Kn.at_ X (cn, s) = ((Kn.at_ X (cn, s)).toNat : Int)
            omega
          have HA1 : Hid (arcI xa xb xc xd t = (ua : Nat)) := Lib.hid (by rw [HUA.out, ← har t ht4, HXC.out]; rfl); have HA2 : Hid (arcI xa xb xc xd t2 = (va : Nat)) := Lib.hid (by rw [HVA.out, ← har t2 ht2, HXC.out]; rfl)
          obtain ⟨d, HD⟩ : ∃ d, Hid (decide (ua = va) = d) := ⟨_, Lib.hid rfl⟩
          have hd1 : ((ua : Int) == (va : Int)) = d := by rw [← HD.out, Bool.eq_iff_iff]; simp; omega
          have HB0 : Hid (wr.drew.heap[Bx]? = some (.cells #[.int .i64 xa, .int .i64 xb, .int .i64 xc, .int .i64 xd, .bool xp] 75 (0, 0))) := Lib.hid (HNr.out.blk HB8.out fun x => x); have HN0 : Hid (New w3 wr.drew) := Lib.hid HNr.out.drew; have hS0 := five_c HB0.out; clear har; go_wp2_with fail
          refine wp_region_held_drew (S := fun wz => wz.cell? ⟨Bx, 0, none⟩ = some (.int .i64 xa) ∧ wz.cell? ⟨Bx, 1, none⟩ = some (.int .i64 xb) ∧ wz.cell? ⟨Bx, 2, none⟩ = some (.int .i64 xc) ∧ wz.cell? ⟨Bx, 3, none⟩ = some (.int .i64 xd) ∧ wz.cell? ⟨Bx, 4, none⟩ = some (.bool xp)) (by kernel_rfl) hS0 (fun hHeld => ?_)
          clear hS0; generalize wr.drew = r0 at hHeld HN0 HB0 ⊢; refine' tkO (i := 0) ?_; (try simp only [Act.put, lq1, lq2, lq4, lq5, lq6]); refine' tkO (i := 1) ?_; (try simp only [Act.put, lq1, lq2, lq3, lq4, lq5, lq6]); refine' tkO (i := 2) ?_; (try simp only [Act.put, lq1, lq2, lq3, lq4, lq5, lq6]); refine' tkO (i := 3) ?_; (try simp only [Act.put, lq1, lq2, lq3, lq4, lq5, lq6]); refine' tkO (i := 5) ?_; (try simp only [Act.put, lq1, lq2, lq3, lq4, lq5, lq6]); refine' tkO (i := 6) ?_; (try simp only [Act.put, lq1, lq2, lq3, lq4, lq5, lq6]); refine' tkO (i := 7) ?_
          (try simp only [Act.put, lq1, lq2, lq3, lq4, lq5, lq6]); refine' tkO (i := 8) ?_; (try simp only [Act.put, lq1, lq2, lq3, lq4, lq5, lq6]); refine rdO (i := 4) (fun K hK => ?_); (try simp only [lq1, lq2, lq3]); go_simp; refine (arc_any xa xb xc xd xp t _ ht4).mono ?_; rintro e r1 ⟨rfl, hF⟩; rw [HA1.out]; have HN1 := Lib.hid (HN0.out.trans hF); have HB1 := Lib.hid (hF.blk HB0.out fun x => x); clear hF; go_wp2_with fail; refine hK.out _ _ (five_c HB1.out) (fun hHeld => ?_); clear hK K; (try simp only [Act.put, lq1, lq2, lq3, lq4, lq5, lq6]); refine rdO (i := 9) (fun K hK => ?_)
          (try simp only [lq1, lq2, lq3]); rw [if_pos (by rfl)]; go_simp; refine (arc_any xa xb xc xd xp t2 _ ht2).mono ?_; rintro e r2 ⟨rfl, hF⟩; rw [HA2.out]; have HN2 := Lib.hid (HN1.out.trans hF); have HB2 := Lib.hid (hF.blk HB1.out fun x => x); clear hF; go_wp2_with fail; refine hK.out _ _ (five_c HB2.out) (fun hHeld => ?_); clear hK K; (try simp only [Act.put, lq1, lq2, lq3, lq4, lq5, lq6]); refine' tkO (i := 10) ?_; (try simp only [Act.put, lq1, lq2, lq3, lq4, lq5, lq6]); refine' tkO (i := 11) ?_; (try simp only [Act.put, lq1, lq2, lq3, lq4, lq5, lq6]); refine' tkO (i := 12) ?_
          (try simp only [Act.put, lq1, lq2, lq3, lq4, lq5, lq6]); refine wpAnyH_done (by kernel_rfl) ?_ _; go_wp2
          go_roundw
          case rel => exact ⟨t + 1, d, by omega, by go_num, rfl, Lib.hid (by rw [curlTo_succ, ← HC.out, ← HD.out, HUA.out, HVA.out, HT2.out]; rfl), HN2⟩
          case measure => simp [intOf]; omega
        · go_wp2_with fail
          go_quiet (fail)
          go_wp2
          go_roundw
          case rel => exact ⟨t + 1, true, by omega, by go_num, rfl, Lib.hid (by rw [curlTo_succ, ← HC.out]; rfl), Lib.hid (HNr.out.drewN _)⟩
          case measure => simp [intOf]; omega
      · obtain rfl : 4 = t := by omega
        have HC4 : Hid (curlB X cn = q) := Lib.hid HC.out.symm; have HN9 : Hid (New w wr) := Lib.hid (HN8.out.trans HNr.out); have p1 := (eight_c (HNr.out.blk HZ8.out fun x => x)).2.1
        cases q
        · go_wp2_with fail
          refine (need_no 8 _).mono ?_; rintro e w5 ⟨rfl, rfl⟩; go_wp2
          refine ⟨rfl, HN9.out.mono fun _ h => h.elim, ?_⟩
          rw [HU.out, HC4.out]; rfl
        · go_wp2_with fail
          refine (need_yes 8 _).mono ?_; rintro e w5 ⟨rfl, hw5⟩; rw [← hw5] at HN9 p1; clear hw5; have HNA : Hid (New w (w5.alloc (.cells #[.int .i64 (cn : Nat)] 3))) := Lib.hid (HN9.out.alloc _)
          have HI : Hid (IntsAt (w5.alloc (.cells #[.int .i64 (cn : Nat)] 3)) w5.heap.size [(cn : Int)]) := Lib.hid (fun i hi => by
            have h0 : i = 0 := by simpa using hi
            subst h0
            exact cell_of_row _ _ 0 _ 3 (0, 0) (heap_alloc_new w5 _))
          go_wp2_with fail; refine (take_any b s _ 1 1 fv [(cn : Int)] (Kn.only cn) X L _ (HH.out.new HNA.out) HX.out hl l1 l2 HI.out rfl (by omega) (fun d _ => ?_)).mono ?_
          · rw [Bool.eq_iff_iff]; simp; omega
          rintro e w6 hG; have HGO : Hid (GaveO s (takeO X L (Kn.only cn)) w e w6) := Lib.hid (gaveO_take HNA.out hG); have HUO : Hid (unO X L (cn : Nat) = takeO X L (Kn.only cn)) := Lib.hid (by rw [HU.out, HC4.out]; rfl)
          obtain ⟨o, HO⟩ : ∃ o, Hid (o = takeO X L (Kn.only cn)) := ⟨_, Lib.hid rfl⟩
          rw [← HO.out] at HGO HUO; clear hG
          cases o with
          | no x =>
            obtain ⟨h1, rfl⟩ := HGO.out; go_wp2
            refine ⟨rfl, h1, ?_⟩
            rw [HUO.out]
          | ok Y L2 =>
            obtain ⟨h1, rfl, h2⟩ := HGO.out; have HG1 := Lib.hid h1; have HG2 := Lib.hid h2; clear h1 h2; go_wp2; go_end0
            refine ⟨HG1.out, ?_⟩
            rw [HUO.out]
            exact ⟨rfl, HG2.out⟩
end Go.Proofs.YtgjmjbgicfkojaaGreat

/- Walks: pull. -/
namespace Go.Proofs.YtgjmjbgicfkojaaGreat
open Go.RowKit

theorem facesOk {X : List Kn.Cr} (hX : Kn.Ok X) (hl : X.length ≤ 16) : FacesOk X (Kn.facesL X) := by
  have hp := Kn.faces_perm hX; have hlen := hp.length_eq
  have hd : (Kn.darts X).length ≤ 64 := by rw [Kn.darts_length]; omega
  refine ⟨?_, fun f hf => ⟨?_, fun d hd => ?_⟩⟩
  · have := hX.euler.1
    have := pieces_few X hX
    omega
  · have := (List.sublist_flatten_of_mem hf).length_le
    omega
  · exact Kn.mem_darts.1 (hp.mem_iff.1 (List.mem_flatten.2 ⟨f, hf, hd⟩))
def pullO (X : List Kn.Cr) (L x y : Int) : Out := if (isCr X x && isCr X y) && decide (x ≠ y) then (if (Kn.facesL X).any (bigF X x y) then takeO X L (Kn.both x.toNat y.toNat) else .no 8) else .no 3
set_option maxRecDepth 100000 in
set_option maxHeartbeats 8000000 in
theorem pull_any (b s : Nat) (fv : Value) (X : List Kn.Cr) (L k x y u v : Int) (ub vb ov : Bool) (w : World) (h : BeAt w b s fv X L) (hr : Rows OwnD 0 71 w fv (Kn.facesL X)) (hX : Kn.Ok X) (hl : X.length ≤ 16) (l1 : 0 ≤ L) (l2 : L ≤ 16) :
    Calls Tryz.prog 30 #[.pointer (some ⟨b, 0, none⟩), mvV k x y u v ub vb ov] w (GaveO s (pullO X L x y) w) := by
  have HH := Lib.hid h; have HX := Lib.hid hX; have HR := Lib.hid hr; have HFO := Lib.hid (facesOk hX hl)
  obtain ⟨r1, HR1⟩ : ∃ r, Hid (isCr X x = r) := ⟨_, Lib.hid rfl⟩
  obtain ⟨r2, HR2⟩ : ∃ r, Hid (isCr X y = r) := ⟨_, Lib.hid rfl⟩
  obtain ⟨r3, HR3⟩ : ∃ r, Hid (decide (x ≠ y) = r) := ⟨_, Lib.hid rfl⟩
  have hd1 : (x != y) = r3 := by rw [← HR3.out, Bool.eq_iff_iff]; simp
  clear h hX hr
  go_enter Tryz.func30, Tryz.ntmps30
  obtain ⟨w1, HW1⟩ : ∃ w1, Hid (w1 = (w.alloc (.cells #[.pointer (some ⟨b, 0, none⟩)] 53)).alloc (.cells #[.int .i64 k, .int .i64 x, .int .i64 y, .int .i64 u, .bool ub, .int .i64 v, .bool vb, .bool ov] 28)) := ⟨_, Lib.hid rfl⟩
  have hz0 := ((Fr.refl (fun _ => False) (w.alloc (.cells #[.pointer (some ⟨b, 0, none⟩)] 53))).alloc (.cells #[.int .i64 k, .int .i64 x, .int .i64 y, .int .i64 u, .bool ub, .int .i64 v, .bool vb, .bool ov] 28)).blk (heap_alloc_new w (.cells #[.pointer (some ⟨b, 0, none⟩)] 53)) fun x => x
  have hz := heap_alloc_new (w.alloc (.cells #[.pointer (some ⟨b, 0, none⟩)] 53)) (.cells #[.int .i64 k, .int .i64 x, .int .i64 y, .int .i64 u, .bool ub, .int .i64 v, .bool vb, .bool ov] 28)
  have hn : New w w1 := by rw [HW1.out]; exact ((Fr.refl _ w).alloc _).alloc _
  rw [World.size_alloc] at hz; rw [← HW1.out] at hz hz0; have HN := Lib.hid hn; have HZ0 := Lib.hid hz0; have HZ := Lib.hid hz; have p0 := cell_of_row _ _ 0 _ 53 (0, 0) hz0; obtain ⟨_, p1, p2, _⟩ := eight_c hz; clear hn hz hz0
  have HNO : Hid (¬ ((r1 && r2) && r3) = true → pullO X L x y = .no 3) := Lib.hid (fun hno => by
    unfold pullO
    rw [HR1.out, HR2.out, HR3.out, if_neg hno])
  have HYES : Hid (((r1 && r2) && r3) = true → pullO X L x y = if (Kn.facesL X).any (bigF X x y) then takeO X L (Kn.both x.toNat y.toNat) else .no 8) := Lib.hid (fun hyes => by
    unfold pullO
    rw [HR1.out, HR2.out, HR3.out, if_pos hyes])
  go_wp2_with fail; rw [← HW1.out]
  obtain ⟨B1, HB1⟩ : ∃ B, Hid (B = w.heap.size) := ⟨_, Lib.hid rfl⟩
  obtain ⟨B2, HB2⟩ : ∃ B, Hid (B = w.heap.size + 1) := ⟨_, Lib.hid rfl⟩
  rw [← HB2.out] at p1 p2 HZ ⊢; rw [← HB1.out] at p0 HZ0 ⊢; clear HW1; refine (isCross_any b s fv X L x _ (HH.out.new HN.out) hl).mono ?_; rintro e w2 ⟨rfl, rfl⟩; rw [HR1.out]
  cases r1
  · go_wp2_with fail
    refine (need_no 3 _).mono ?_; rintro e w3 ⟨rfl, rfl⟩; go_wp2
    refine ⟨rfl, HN.out.mono fun _ h => h.elim, ?_⟩
    rw [HNO.out (by simp)]
  · go_wp2_with fail
    refine (isCross_any b s fv X L y _ (HH.out.new HN.out) hl).mono ?_; rintro e w3 ⟨rfl, rfl⟩; rw [HR2.out]
    cases r2
    · go_wp2_with fail
      refine (need_no 3 _).mono ?_; rintro e w3 ⟨rfl, rfl⟩; go_wp2
      refine ⟨rfl, HN.out.mono fun _ h => h.elim, ?_⟩
      rw [HNO.out (by simp)]
    · cases r3
      · go_wp2_with fail
        refine (need_no 3 _).mono ?_; rintro e w3 ⟨rfl, rfl⟩; go_wp2
        refine ⟨rfl, HN.out.mono fun _ h => h.elim, ?_⟩
        rw [HNO.out (by simp)]
      · go_wp2_with fail
        refine (need_yes 3 _).mono ?_; rintro e w3 ⟨rfl, rfl⟩
        obtain ⟨cx, rfl, hcx⟩ : ∃ c : Nat, x = (c : Int) ∧ c < X.length := by
          have h1 := HR1.out
          unfold isCr at h1
          rw [Bool.and_eq_true, decide_eq_true_eq, decide_eq_true_eq] at h1
          exact ⟨x.toNat, by omega, by omega⟩
        obtain ⟨cy, rfl, hcy⟩ : ∃ c : Nat, y = (c : Int) ∧ c < X.length := by
          have h1 := HR2.out
          unfold isCr at h1
          rw [Bool.and_eq_true, decide_eq_true_eq, decide_eq_true_eq] at h1
          exact ⟨y.toNat, by omega, by omega⟩
        have HU : Hid (pullO X L (cx : Nat) (cy : Nat) = if (Kn.facesL X).any (bigF X cx cy) then takeO X L (Kn.both cx cy) else .no 8) := Lib.hid (HYES.out rfl); have HBE := Lib.hid (HH.out.new HN.out); obtain ⟨c0, c1⟩ := HBE.out.c
        obtain ⟨q, HQ⟩ : ∃ q, Hid ((Kn.facesL X).any (bigF X cx cy) = q) := ⟨_, Lib.hid rfl⟩
        have HCF := Lib.hid (containsF_any b s B1 B2 fv fv X L cx cy (Kn.facesL X) w3 ⟨HBE.out, p0, p1, p2⟩ hl HFO.out (RowsD.new HR.out HN.out)); rw [HQ.out] at HCF; go_wp2_with fail
        refine HCF.out.mono ?_
        rintro e w4 ⟨rfl, hN⟩; have HN4 := Lib.hid (HN.out.trans hN)
        have p0' := hN.cell p0 fun x => x
        have p1' := hN.cell p1 fun x => x
        have p2' := hN.cell p2 fun x => x
        clear hN p0 p1 p2 c0 c1 hd1
        cases q
        · go_wp2_with fail
          refine (need_no 8 _).mono ?_; rintro e w5 ⟨rfl, rfl⟩; go_wp2
          refine ⟨rfl, HN4.out.mono fun _ h => h.elim, ?_⟩
          rw [HU.out, HQ.out]; rfl
        · go_wp2_with fail
          refine (need_yes 8 _).mono ?_; rintro e w5 ⟨rfl, rfl⟩; have HNA : Hid (New w (w5.alloc (.cells #[.int .i64 (cx : Nat), .int .i64 (cy : Nat)] 3))) := Lib.hid (HN4.out.alloc _)
          have HI : Hid (IntsAt (w5.alloc (.cells #[.int .i64 (cx : Nat), .int .i64 (cy : Nat)] 3)) w5.heap.size [(cx : Int), (cy : Int)]) := Lib.hid (fun i hi => by
            have hz := heap_alloc_new w5 (.cells #[.int .i64 (cx : Nat), .int .i64 (cy : Nat)] 3)
            match i, hi with
            | 0, _ => exact cell_of_row _ _ 0 _ 3 (0, 0) hz
            | 1, _ => exact cell_of_row _ _ 1 _ 3 (0, 0) hz)
          go_wp2_with fail; refine (take_any b s _ 2 2 fv [(cx : Int), (cy : Int)] (Kn.both cx cy) X L _ (HH.out.new HNA.out) HX.out hl l1 l2 HI.out rfl (by omega) (fun d _ => ?_)).mono ?_
          · rw [Bool.eq_iff_iff]; simp; omega
          rintro e w6 hG; have HGO : Hid (GaveO s (takeO X L (Kn.both cx cy)) w e w6) := Lib.hid (gaveO_take HNA.out hG); have HUO : Hid (pullO X L (cx : Nat) (cy : Nat) = takeO X L (Kn.both cx cy)) := Lib.hid (by rw [HU.out, HQ.out]; rfl)
          obtain ⟨o, HO⟩ : ∃ o, Hid (o = takeO X L (Kn.both cx cy)) := ⟨_, Lib.hid rfl⟩
          rw [← HO.out] at HGO HUO; clear hG
          cases o with
          | no x =>
            obtain ⟨h1, rfl⟩ := HGO.out; go_wp2
            refine ⟨rfl, h1, ?_⟩
            rw [HUO.out]
          | ok Y L2 =>
            obtain ⟨h1, rfl, h2⟩ := HGO.out; have HG1 := Lib.hid h1; have HG2 := Lib.hid h2; clear h1 h2; go_wp2; go_end0
            refine ⟨HG1.out, ?_⟩
            rw [HUO.out]
            exact ⟨rfl, HG2.out⟩
end Go.Proofs.YtgjmjbgicfkojaaGreat

/- Walks: kinds: the moves by their kinds. -/
namespace Go.Proofs.YtgjmjbgicfkojaaGreat
open Go.RowKit Go.ChangeMaps

theorem Tryz.ul57 : Tryz.prog.underlying 57 = some (.map 3 56) := by kernel_rfl
abbrev kEnt (k f : Nat) : MapEntry := { key := .int .i64 (k : Nat), val := .func (.func f) #[] #[], born := k - 1 }
def kEs : Nat → Array MapEntry
  | 0 => #[]
  | 1 => #[kEnt 1 27]
  | 2 => #[kEnt 1 27, kEnt 2 28]
  | 3 => #[kEnt 1 27, kEnt 2 28, kEnt 3 29]
  | 4 => #[kEnt 1 27, kEnt 2 28, kEnt 3 29, kEnt 4 30]
  | _ => #[kEnt 1 27, kEnt 2 28, kEnt 3 29, kEnt 4 30, kEnt 5 31]
theorem setBlock_get {w : World} {b : Nat} {o o' : Obj} (hb : w.heap[b]? = some o) : (setBlock w b o').heap[b]? = some o' := by
  have := (Array.getElem?_eq_some_iff.1 hb).1
  unfold setBlock
  simp [this]
theorem setBlock_fr (w : World) (b : Nat) (o : Obj) : Fr (fun k => k = b) w (setBlock w b o) := by
  refine ⟨rfl, rfl, rfl, by unfold setBlock; simp, fun k hk hs => ?_⟩
  unfold setBlock
  simp only [Array.getElem?_setIfInBounds]; rw [if_neg fun e : b = k => hs e.symm]
set_option maxRecDepth 100000 in
theorem kins0 (w : World) (b : Nat) (hb : w.heap[b]? = some (.map (kEs 0) 0)) : (Instr.mapUpdate 57 (.map (some b)) (.int .i64 1) (.func (.func 27) #[] #[])).run Tryz.prog w = .ok () (setBlock w b (.map (kEs 1) 1)) := by
  have hc : (Instr.checkKey false 10000 3 (.int .i64 1)).run Tryz.prog w = .ok () w := by kernel_rfl
  have hf : (Instr.findKey 3 (.int .i64 1) (kEs 0).toList).run Tryz.prog w = .ok none w := by kernel_rfl
  simp [Instr.mapUpdate, run_underlying Tryz.ul57, MapKept.run_getObj_map hb, hc, hf, MapKept.run_setObj_map _ hb, Result.andThen, setBlock]
  rfl
set_option maxRecDepth 100000 in
theorem kins1 (w : World) (b : Nat) (hb : w.heap[b]? = some (.map (kEs 1) 1)) : (Instr.mapUpdate 57 (.map (some b)) (.int .i64 2) (.func (.func 28) #[] #[])).run Tryz.prog w = .ok () (setBlock w b (.map (kEs 2) 2)) := by
  have hc : (Instr.checkKey false 10000 3 (.int .i64 2)).run Tryz.prog w = .ok () w := by kernel_rfl
  have hf : (Instr.findKey 3 (.int .i64 2) (kEs 1).toList).run Tryz.prog w = .ok none w := by kernel_rfl
  simp [Instr.mapUpdate, run_underlying Tryz.ul57, MapKept.run_getObj_map hb, hc, hf, MapKept.run_setObj_map _ hb, Result.andThen, setBlock]
  rfl
set_option maxRecDepth 100000 in
theorem kins2 (w : World) (b : Nat) (hb : w.heap[b]? = some (.map (kEs 2) 2)) : (Instr.mapUpdate 57 (.map (some b)) (.int .i64 3) (.func (.func 29) #[] #[])).run Tryz.prog w = .ok () (setBlock w b (.map (kEs 3) 3)) := by
  have hc : (Instr.checkKey false 10000 3 (.int .i64 3)).run Tryz.prog w = .ok () w := by kernel_rfl
  have hf : (Instr.findKey 3 (.int .i64 3) (kEs 2).toList).run Tryz.prog w = .ok none w := by kernel_rfl
  simp [Instr.mapUpdate, run_underlying Tryz.ul57, MapKept.run_getObj_map hb, hc, hf, MapKept.run_setObj_map _ hb, Result.andThen, setBlock]
  rfl
set_option maxRecDepth 100000 in
theorem kins3 (w : World) (b : Nat) (hb : w.heap[b]? = some (.map (kEs 3) 3)) : (Instr.mapUpdate 57 (.map (some b)) (.int .i64 4) (.func (.func 30) #[] #[])).run Tryz.prog w = .ok () (setBlock w b (.map (kEs 4) 4)) := by
  have hc : (Instr.checkKey false 10000 3 (.int .i64 4)).run Tryz.prog w = .ok () w := by kernel_rfl
  have hf : (Instr.findKey 3 (.int .i64 4) (kEs 3).toList).run Tryz.prog w = .ok none w := by kernel_rfl
  simp [Instr.mapUpdate, run_underlying Tryz.ul57, MapKept.run_getObj_map hb, hc, hf, MapKept.run_setObj_map _ hb, Result.andThen, setBlock]
  rfl
set_option maxRecDepth 100000 in
theorem kins4 (w : World) (b : Nat) (hb : w.heap[b]? = some (.map (kEs 4) 4)) : (Instr.mapUpdate 57 (.map (some b)) (.int .i64 5) (.func (.func 31) #[] #[])).run Tryz.prog w = .ok () (setBlock w b (.map (kEs 5) 5)) := by
  have hc : (Instr.checkKey false 10000 3 (.int .i64 5)).run Tryz.prog w = .ok () w := by kernel_rfl
  have hf : (Instr.findKey 3 (.int .i64 5) (kEs 4).toList).run Tryz.prog w = .ok none w := by kernel_rfl
  simp [Instr.mapUpdate, run_underlying Tryz.ul57, MapKept.run_getObj_map hb, hc, hf, MapKept.run_setObj_map _ hb, Result.andThen, setBlock]
  rfl
set_option maxRecDepth 100000 in
theorem klook1 (w : World) (b : Nat) (hb : w.heap[b]? = some (.map (kEs 5) 5)) : (Instr.lookup 57 (.map (some b)) (.int .i64 1) false).run Tryz.prog w = .ok (.func (.func 27) #[] #[]) w := by
  have hc : (Instr.checkKey false 10000 3 (.int .i64 1)).run Tryz.prog w = .ok () w := by kernel_rfl
  have hf : (Instr.findKey 3 (.int .i64 1) (kEs 5).toList).run Tryz.prog w = .ok (some (0, .func (.func 27) #[] #[])) w := by kernel_rfl
  have he : (kEs 5).isEmpty = false := rfl
  simp [Instr.lookup, run_underlying Tryz.ul57, MapKept.run_getObj_map hb, hc, hf, he, Result.andThen]
set_option maxRecDepth 100000 in
theorem klook2 (w : World) (b : Nat) (hb : w.heap[b]? = some (.map (kEs 5) 5)) : (Instr.lookup 57 (.map (some b)) (.int .i64 2) false).run Tryz.prog w = .ok (.func (.func 28) #[] #[]) w := by
  have hc : (Instr.checkKey false 10000 3 (.int .i64 2)).run Tryz.prog w = .ok () w := by kernel_rfl
  have hf : (Instr.findKey 3 (.int .i64 2) (kEs 5).toList).run Tryz.prog w = .ok (some (1, .func (.func 28) #[] #[])) w := by kernel_rfl
  have he : (kEs 5).isEmpty = false := rfl
  simp [Instr.lookup, run_underlying Tryz.ul57, MapKept.run_getObj_map hb, hc, hf, he, Result.andThen]
set_option maxRecDepth 100000 in
theorem klook3 (w : World) (b : Nat) (hb : w.heap[b]? = some (.map (kEs 5) 5)) : (Instr.lookup 57 (.map (some b)) (.int .i64 3) false).run Tryz.prog w = .ok (.func (.func 29) #[] #[]) w := by
  have hc : (Instr.checkKey false 10000 3 (.int .i64 3)).run Tryz.prog w = .ok () w := by kernel_rfl
  have hf : (Instr.findKey 3 (.int .i64 3) (kEs 5).toList).run Tryz.prog w = .ok (some (2, .func (.func 29) #[] #[])) w := by kernel_rfl
  have he : (kEs 5).isEmpty = false := rfl
  simp [Instr.lookup, run_underlying Tryz.ul57, MapKept.run_getObj_map hb, hc, hf, he, Result.andThen]
set_option maxRecDepth 100000 in
theorem klook4 (w : World) (b : Nat) (hb : w.heap[b]? = some (.map (kEs 5) 5)) : (Instr.lookup 57 (.map (some b)) (.int .i64 4) false).run Tryz.prog w = .ok (.func (.func 30) #[] #[]) w := by
  have hc : (Instr.checkKey false 10000 3 (.int .i64 4)).run Tryz.prog w = .ok () w := by kernel_rfl
  have hf : (Instr.findKey 3 (.int .i64 4) (kEs 5).toList).run Tryz.prog w = .ok (some (3, .func (.func 30) #[] #[])) w := by kernel_rfl
  have he : (kEs 5).isEmpty = false := rfl
  simp [Instr.lookup, run_underlying Tryz.ul57, MapKept.run_getObj_map hb, hc, hf, he, Result.andThen]
set_option maxRecDepth 100000 in
theorem klook5 (w : World) (b : Nat) (hb : w.heap[b]? = some (.map (kEs 5) 5)) : (Instr.lookup 57 (.map (some b)) (.int .i64 5) false).run Tryz.prog w = .ok (.func (.func 31) #[] #[]) w := by
  have hc : (Instr.checkKey false 10000 3 (.int .i64 5)).run Tryz.prog w = .ok () w := by kernel_rfl
  have hf : (Instr.findKey 3 (.int .i64 5) (kEs 5).toList).run Tryz.prog w = .ok (some (4, .func (.func 31) #[] #[])) w := by kernel_rfl
  have he : (kEs 5).isEmpty = false := rfl
  simp [Instr.lookup, run_underlying Tryz.ul57, MapKept.run_getObj_map hb, hc, hf, he, Result.andThen]
def GaveKinds (w : World) (e : Ending) (w' : World) : Prop := ∃ mb, e = .returned (.map (some mb)) ∧ New w w' ∧ w'.heap[mb]? = some (.map (kEs 5) 5)
set_option maxRecDepth 100000 in
set_option maxHeartbeats 2000000 in
theorem kinds_any (w : World) : Calls Tryz.prog 18 #[] w (GaveKinds w) := by
  have hmm := @run_makeMap Tryz.prog
  go_enter Tryz.func18, Tryz.ntmps18
  obtain ⟨w0, hw0⟩ : ∃ w0, w0 = w.alloc (.map #[] 0) := ⟨_, rfl⟩
  have h0 : w0.heap[w.heap.size]? = some (.map (kEs 0) 0) := by rw [hw0]; exact heap_alloc_new _ _
  have hn0 : New w w0 := by rw [hw0]; exact (Fr.refl _ w).alloc _
  have k0 := kins0 w0 w.heap.size h0
  obtain ⟨w1, hw1⟩ : ∃ w', w' = setBlock w0 w.heap.size (.map (kEs 1) 1) := ⟨_, rfl⟩
  have h1 : w1.heap[w.heap.size]? = some (.map (kEs 1) 1) := by rw [hw1]; exact setBlock_get h0
  have hn1 : New w w1 := by rw [hw1]; exact hn0.next (setBlock_fr _ _ _) fun i hi => .inr (by rw [hi]; exact Nat.le_refl _)
  rw [← hw1] at k0; have k1 := kins1 w1 w.heap.size h1
  obtain ⟨w2, hw2⟩ : ∃ w', w' = setBlock w1 w.heap.size (.map (kEs 2) 2) := ⟨_, rfl⟩
  have h2 : w2.heap[w.heap.size]? = some (.map (kEs 2) 2) := by rw [hw2]; exact setBlock_get h1
  have hn2 : New w w2 := by rw [hw2]; exact hn1.next (setBlock_fr _ _ _) fun i hi => .inr (by rw [hi]; exact Nat.le_refl _)
  rw [← hw2] at k1; have k2 := kins2 w2 w.heap.size h2
  obtain ⟨w3, hw3⟩ : ∃ w', w' = setBlock w2 w.heap.size (.map (kEs 3) 3) := ⟨_, rfl⟩
  have h3 : w3.heap[w.heap.size]? = some (.map (kEs 3) 3) := by rw [hw3]; exact setBlock_get h2
  have hn3 : New w w3 := by rw [hw3]; exact hn2.next (setBlock_fr _ _ _) fun i hi => .inr (by rw [hi]; exact Nat.le_refl _)
  rw [← hw3] at k2; have k3 := kins3 w3 w.heap.size h3
  obtain ⟨w4, hw4⟩ : ∃ w', w' = setBlock w3 w.heap.size (.map (kEs 4) 4) := ⟨_, rfl⟩
  have h4 : w4.heap[w.heap.size]? = some (.map (kEs 4) 4) := by rw [hw4]; exact setBlock_get h3
  have hn4 : New w w4 := by rw [hw4]; exact hn3.next (setBlock_fr _ _ _) fun i hi => .inr (by rw [hi]; exact Nat.le_refl _)
  rw [← hw4] at k3; have k4 := kins4 w4 w.heap.size h4
  obtain ⟨w5, hw5⟩ : ∃ w', w' = setBlock w4 w.heap.size (.map (kEs 5) 5) := ⟨_, rfl⟩
  have h5 : w5.heap[w.heap.size]? = some (.map (kEs 5) 5) := by rw [hw5]; exact setBlock_get h4
  have hn5 : New w w5 := by rw [hw5]; exact hn4.next (setBlock_fr _ _ _) fun i hi => .inr (by rw [hi]; exact Nat.le_refl _)
  rw [← hw5] at k4; rw [hw0] at k0; have HN := Lib.hid hn5; have HH := Lib.hid h5; clear h0 h1 h2 h3 h4 h5 hn0 hn1 hn2 hn3 hn4 hn5 hw1 hw2 hw3 hw4 hw5 hw0; go_wp2; go_ret
  exact ⟨_, rfl, HN.out, HH.out⟩
end Go.Proofs.YtgjmjbgicfkojaaGreat
