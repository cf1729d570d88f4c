/- Walks: the law MovesBack. -/
import Derived.Test.YtgjmjbgicfkojaaGreatN36b
import Derived.Test.YtgjmjbgicfkojaaGreatN37
namespace Go.Proofs.YtgjmjbgicfkojaaGreat
open Go.RowKit

def moveO (X : List Kn.Cr) (L k x y u v : Int) (ub vb ov : Bool) : Out :=
  if k = 1 then curlO X L x y else if k = 2 then unO X L x else if k = 3 then pushO X L u v ub vb ov else if k = 4 then pullO X L x y else if k = 5 then slideO X L x else .no 6
theorem do_any (a : Option Addr) (n c : Nat) (X : List Kn.Cr) (L k x y u v : Int) (ub vb ov : Bool) (w : World) (hx : CrsAt w a X) (hn : n = X.length) (lx : n ≤ 9223372036854775807) (l1 : -9223372036854775808 ≤ L) (l2 : L ≤ 9223372036854775807) :
    Calls Tryz.prog 6 #[.agg #[.slice a n c, .int .i64 L], mvV k x y u v ub vb ov] w (GaveDo (doO X L (moveO X L k x y u v ub vb ov)) w) := by
  unfold moveO
  by_cases h1 : k = 1
  · subst h1; exact do_curl a n c X L x y u v ub vb ov w hx hn lx l1 l2
  · rw [if_neg h1]
    by_cases h2 : k = 2
    · subst h2; exact do_un2 a n c X L x y u v ub vb ov w hx hn lx l1 l2
    · rw [if_neg h2]
      by_cases h3 : k = 3
      · subst h3; exact do_push a n c X L x y u v ub vb ov w hx hn lx l1 l2
      · rw [if_neg h3]
        by_cases h4 : k = 4
        · subst h4; exact do_pull2 a n c X L x y u v ub vb ov w hx hn lx l1 l2
        · rw [if_neg h4]
          by_cases h5 : k = 5
          · subst h5; exact do_slide a n c X L x y u v ub vb ov w hx hn lx l1 l2
          · rw [if_neg h5]
            exact do_other a n c X L k x y u v ub vb ov w hx hn lx l1 l2 h1 h2 h3 h4 h5
theorem takeO_no {X : List Kn.Cr} {L e : Int} {g : Nat → Bool} (h : takeO X L g = .no e) : e = 2 := by
  unfold takeO at h
  split at h
  · cases h
  · injection h with h; exact h.symm
theorem moveO_no {X : List Kn.Cr} {L k x y u v e : Int} {ub vb ov : Bool} (h : moveO X L k x y u v ub vb ov = .no e) : (e != 0) = true := by
  have : e = 2 ∨ e = 3 ∨ e = 6 ∨ e = 8 := by
    unfold moveO at h
    split at h
    · unfold curlO at h
      repeat' split at h
      all_goals (first | (cases h; done) | (injection h with h; omega))
    · split at h
      · unfold unO at h
        repeat' split at h
        all_goals (first | (have := takeO_no h; omega) | (injection h with h; omega))
      · split at h
        · unfold pushO at h
          repeat' split at h
          all_goals (first | (cases h; done) | (injection h with h; omega))
        · split at h
          · unfold pullO at h
            repeat' split at h
            all_goals (first | (have := takeO_no h; omega) | (injection h with h; omega))
          · split at h
            · unfold slideO at h
              repeat' split at h
              all_goals (first | (cases h; done) | (injection h with h; omega))
            · injection h with h; omega
  rcases this with rfl | rfl | rfl | rfl <;> rfl
theorem unO_len {X Y : List Kn.Cr} {L N a : Int} (hg : Good X L) (h : unO X L a = .ok Y N) : Good Y N ∧ Y.length + 1 = X.length := by
  have hc : isCr X a = true := by
    unfold unO at h
    split at h
    · assumption
    · cases h
  have hc' := hc
  unfold isCr at hc'
  simp only [Bool.and_eq_true, decide_eq_true_eq] at hc'
  obtain ⟨c, rfl⟩ : ∃ c : Nat, a = c := ⟨a.toNat, by omega⟩
  refine ⟨(unO_good hg h).1, ?_⟩
  unfold unO at h
  rw [if_pos hc] at h
  split at h
  · unfold takeO at h
    split at h
    · injection h with h1 h2
      rw [← h1, Kn.takeL_len, Int.toNat_natCast]
      exact Kn.kept_only (by omega)
    · cases h
  · cases h
theorem pullO_len {X Y : List Kn.Cr} {L N a b : Int} (hg : Good X L) (h : pullO X L a b = .ok Y N) : Good Y N ∧ Y.length + 2 = X.length := by
  have hc : ((isCr X a && isCr X b) && decide (a ≠ b)) = true := by
    unfold pullO at h
    split at h
    · assumption
    · cases h
  have hc' := hc
  unfold isCr at hc'
  simp only [Bool.and_eq_true, decide_eq_true_eq] at hc'
  obtain ⟨c, rfl⟩ : ∃ c : Nat, a = c := ⟨a.toNat, by omega⟩
  obtain ⟨d, rfl⟩ : ∃ d : Nat, b = d := ⟨b.toNat, by omega⟩
  refine ⟨(pullO_good hg h).1, ?_⟩
  unfold pullO at h
  rw [if_pos hc] at h
  split at h
  · unfold takeO at h
    split at h
    · injection h with h1 h2
      rw [← h1, Kn.takeL_len, Int.toNat_natCast, Int.toNat_natCast]
      exact Kn.kept_both (by omega) (by omega) (by omega)
    · cases h
  · cases h
theorem moveO_good {X Y : List Kn.Cr} {L N k x y u v : Int} {ub vb ov : Bool} (hg : Good X L) (h : moveO X L k x y u v ub vb ov = .ok Y N) : Good Y N ∧
    ((k = 1 ∧ unO Y N (X.length : Nat) = .ok X L) ∨ (k = 2 ∧ Y.length + 1 = X.length) ∨ (k = 3 ∧ pullO Y N (X.length : Nat) ((X.length + 1 : Nat) : Int) = .ok X L) ∨ (k = 4 ∧ Y.length + 2 = X.length) ∨ (k = 5 ∧ Y.length = X.length ∧ N = L ∧ slideO X L x = .ok Y L)) := by
  unfold moveO at h
  split at h
  · obtain ⟨h1, h2⟩ := curlO_back hg h
    exact ⟨h1, .inl ⟨by assumption, h2⟩⟩
  · split at h
    · obtain ⟨h1, h2⟩ := unO_len hg h
      exact ⟨h1, .inr (.inl ⟨by assumption, h2⟩)⟩
    · split at h
      · obtain ⟨h1, h2⟩ := pushO_back hg h
        exact ⟨h1, .inr (.inr (.inl ⟨by assumption, h2⟩))⟩
      · split at h
        · obtain ⟨h1, h2⟩ := pullO_len hg h
          exact ⟨h1, .inr (.inr (.inr (.inl ⟨by assumption, h2⟩)))⟩
        · split at h
          · obtain ⟨h1, h2, h3, _⟩ := slideO_back hg h
            subst h3
            exact ⟨h1, .inr (.inr (.inr (.inr ⟨by assumption, h2, rfl, h⟩)))⟩
          · cases h
set_option maxRecDepth 100000 in
set_option maxHeartbeats 2000000 in
theorem mback_any (a : Option Addr) (n c : Nat) (X : List Kn.Cr) (L k x y u v : Int) (ub vb ov : Bool) (w : World) (hx : CrsAt w a X) (hn : n = X.length) (lx : n ≤ 9223372036854775807) (l1 : -9223372036854775808 ≤ L) (l2 : L ≤ 9223372036854775807) :
    Calls Tryz.prog 3 #[.agg #[.slice a n c, .int .i64 L], mvV k x y u v ub vb ov] w (fun e w' => e = .returned (.bool true) ∧ New w w') := by
  have HX := Lib.hid hx; have HN := Lib.hid hn; clear hx hn
  obtain ⟨w0, HW0⟩ : ∃ w0, Hid (w0 = (w.alloc (.cells #[.slice a n c, .int .i64 L] 24)).alloc (.cells #[.int .i64 k, .int .i64 x, .int .i64 y, .int .i64 u, .bool ub, .int .i64 v, .bool vb, .bool ov] 28)) := ⟨_, Lib.hid rfl⟩
  obtain ⟨B2, HB2⟩ : ∃ B, Hid (B = w.heap.size) := ⟨_, Lib.hid rfl⟩
  obtain ⟨B3, HB3⟩ : ∃ B, Hid (B = w.heap.size + 1) := ⟨_, Lib.hid rfl⟩
  have HN0 : Hid (New w w0) := Lib.hid (by rw [HW0.out]; exact ((Fr.refl _ w).alloc _).alloc _)
  have HX0 : Hid (w0.heap[B2]? = some (.cells #[.slice a n c, .int .i64 L] 24 (0, 0))) := Lib.hid (by
    rw [HW0.out, HB2.out]
    exact ((Fr.refl (fun _ => False) _).alloc _).blk (heap_alloc_new w _) fun x => x)
  have HM0 : Hid (w0.heap[B3]? = some (.cells #[.int .i64 k, .int .i64 x, .int .i64 y, .int .i64 u, .bool ub, .int .i64 v, .bool vb, .bool ov] 28 (0, 0))) := Lib.hid (by
    have h := heap_alloc_new (w.alloc (.cells #[.slice a n c, .int .i64 L] 24)) (.cells #[.int .i64 k, .int .i64 x, .int .i64 y, .int .i64 u, .bool ub, .int .i64 v, .bool vb, .bool ov] 28); rw [World.size_alloc] at h
    rw [HW0.out, HB3.out]; exact h)
  go_enter Tryz.func3, Tryz.ntmps3
  go_wp2_with fail; rw [← HW0.out, ← HB3.out, ← HB2.out]; clear HW0 HB2 HB3; refine (awake_any _).mono ?_; rintro e w1 ⟨rfl, hN⟩; have HN1 := Lib.hid (HN0.out.trans hN); have HX1 := Lib.hid (hN.blk HX0.out fun x => x); have HM1 := Lib.hid (hN.blk HM0.out fun x => x); clear hN HN0 HX0 HM0; obtain ⟨p0, p1, _, _⟩ := box2_c HX1.out; obtain ⟨m0, m1, m2, m3, m4, m5, m6, m7⟩ := eight_c HM1.out; go_wp2_with fail; clear p0 p1 m0 m1 m2 m3 m4 m5 m6 m7; refine (do_any a n c X L k x y u v ub vb ov _ (New.crs HN1.out HX.out) HN.out lx l1 l2).mono ?_; rintro e w2 ⟨hN, hM⟩
  by_cases hg : Good X L
  · rw [doO_good hg] at hM
    obtain ⟨o, HO⟩ : ∃ o, Hid (moveO X L k x y u v ub vb ov = o) := ⟨_, Lib.hid rfl⟩
    rw [HO.out] at hM; have HGX := Lib.hid hg
    have hn16 : n ≤ 16 := by rw [HN.out]; exact hg.b.2.1
    have hL1 : 0 ≤ L := hg.b.2.2.1; have hL2 : L ≤ 16 := hg.b.2.2.2; clear hg lx l1 l2
    cases o with
    | no x' =>
      obtain rfl := hM; have hx' := moveO_no HO.out; have hn2 := hN.alloc (.cells #[.slice none 0 0, .int .i64 0] 24)
      obtain ⟨B5, HB5⟩ : ∃ B, Hid (B = w2.heap.size) := ⟨_, Lib.hid rfl⟩
      have hz : (w2.alloc (.cells #[.slice none 0 0, .int .i64 0] 24)).heap[B5]? = some (.cells #[.slice none 0 0, .int .i64 0] 24 (0, 0)) := by rw [HB5.out]; exact heap_alloc_new _ _
      have HZ2 := Lib.hid hz; have HN2 := Lib.hid (HN1.out.trans hn2); have HX2 := Lib.hid (hn2.blk HX1.out fun x => x); clear hN hn2 hz; obtain ⟨p0, p1, _, _⟩ := box2_c HX2.out; go_wp2_with fail; clear p0 p1; rw [← HB5.out]; refine (cplanar_any a n c X L _ (New.crs HN2.out HX.out) HN.out (by omega) (by omega) (by omega)).mono ?_; rintro e w3 ⟨hN, h5⟩; obtain ⟨_, rfl⟩ := h5.resolve_right (fun h => by have h1 := h.1; rw [HGX.out.1] at h1; cases h1); rw [HGX.out.2]; have HN3 := Lib.hid (HN2.out.trans hN); obtain ⟨z0, z1, _, _⟩ := box2_c (hN.blk HZ2.out fun x => x); clear hN h5; go_wp2; go_ret
      exact ⟨rfl, HN3.out⟩
    | ok Y N =>
      obtain ⟨ya, yc, rfl, hcy, _⟩ := hM
      obtain ⟨ny, HNY⟩ : ∃ n, Hid (n = Y.length) := ⟨_, Lib.hid rfl⟩
      obtain ⟨hgy, hk⟩ := moveO_good HGX.out HO.out; have HGY := Lib.hid hgy
      have hny16 : ny ≤ 16 := by rw [HNY.out]; exact hgy.b.2.1
      have hN1 : 0 ≤ N := hgy.b.2.2.1; have hN2 : N ≤ 16 := hgy.b.2.2.2; have HK := Lib.hid hk; clear hk hgy; rw [← HNY.out]; have hn2 := hN.alloc (.cells #[.slice ya ny yc, .int .i64 N] 24)
      obtain ⟨B5, HB5⟩ : ∃ B, Hid (B = w2.heap.size) := ⟨_, Lib.hid rfl⟩
      have hz : (w2.alloc (.cells #[.slice ya ny yc, .int .i64 N] 24)).heap[B5]? = some (.cells #[.slice ya ny yc, .int .i64 N] 24 (0, 0)) := by rw [HB5.out]; exact heap_alloc_new _ _
      have HZ2 := Lib.hid hz; have HN2 := Lib.hid (HN1.out.trans hn2); have HX2 := Lib.hid (hn2.blk HX1.out fun x => x); have HM2 := Lib.hid (hn2.blk HM1.out fun x => x); have HY2 := Lib.hid (New.crs ((Fr.refl (fun _ => False) w2).alloc (.cells #[.slice ya ny yc, .int .i64 N] 24)) hcy); clear hN hn2 hz hcy; obtain ⟨p0, p1, _, _⟩ := box2_c HX2.out; go_wp2_with fail; clear p0 p1; rw [← HB5.out]; refine (cplanar_any a n c X L _ (New.crs HN2.out HX.out) HN.out (by omega) (by omega) (by omega)).mono ?_; rintro e w3 ⟨hN, h5⟩
      obtain ⟨_, rfl⟩ := h5.resolve_right (fun h => by have h1 := h.1; rw [HGX.out.1] at h1; cases h1); rw [HGX.out.2]; have HN3 := Lib.hid (HN2.out.trans hN); have HX3 := Lib.hid (hN.blk HX2.out fun x => x); have HM3 := Lib.hid (hN.blk HM2.out fun x => x); have HZ3 := Lib.hid (hN.blk HZ2.out fun x => x); have HY3 := Lib.hid (New.crs hN HY2.out); obtain ⟨z0, z1, _, _⟩ := box2_c HZ3.out; clear hN h5 HX2 HM2 HZ2 HY2; go_wp2_with fail; clear z0 z1; refine (cplanar_any ya ny yc Y N _ HY3.out HNY.out (by omega) (by omega) (by omega)).mono ?_; rintro e w4 ⟨hN, h5⟩
      obtain ⟨_, rfl⟩ := h5.resolve_right (fun h => by have h1 := h.1; rw [HGY.out.1] at h1; cases h1); rw [HGY.out.2]; have HN4 := Lib.hid (HN3.out.trans hN); have HX4 := Lib.hid (hN.blk HX3.out fun x => x); have HM4 := Lib.hid (hN.blk HM3.out fun x => x); have HZ4 := Lib.hid (hN.blk HZ3.out fun x => x); have HY4 := Lib.hid (New.crs hN HY3.out); obtain ⟨p0, p1, _, _⟩ := box2_c HX4.out; obtain ⟨m0, m1, _, _, _, _, _, _⟩ := eight_c HM4.out; obtain ⟨z0, z1, _, _⟩ := box2_c HZ4.out; clear hN h5 HX3 HM3 HZ3 HY3
      rcases HK.out with ⟨rfl, hb⟩ | ⟨rfl, hlen⟩ | ⟨rfl, hb⟩ | ⟨rfl, hlen⟩ | ⟨rfl, hlen, rfl, hb⟩
      · -- a curl
        have HU := Lib.hid hb; clear hb HK; have HDM := Lib.hid (do_any ya ny yc Y N 2 ((n : Nat) : Int) 0 0 0 false false false w4 HY4.out HNY.out (by omega) (by omega) (by omega)); rw [doO_good HGY.out, show moveO Y N 2 ((n : Nat) : Int) 0 0 0 false false false = unO Y N (n : Nat) from rfl] at HDM; rw [← HN.out] at HU; rw [HU.out] at HDM; go_wp2_with fail; clear p0 p1 m0 m1 z0 z1
        refine HDM.out.mono ?_
        rintro e w5 ⟨hN, qa, qc, rfl, hcq, _⟩; rw [← HN.out]; have hn5 := hN.alloc (.cells #[.slice qa n qc, .int .i64 L] 24)
        obtain ⟨B6, HB6⟩ : ∃ B, Hid (B = w5.heap.size) := ⟨_, Lib.hid rfl⟩
        have hz : (w5.alloc (.cells #[.slice qa n qc, .int .i64 L] 24)).heap[B6]? = some (.cells #[.slice qa n qc, .int .i64 L] 24 (0, 0)) := by rw [HB6.out]; exact heap_alloc_new _ _
        have HN5 := Lib.hid (HN4.out.trans hn5); have HQ5 := Lib.hid (New.crs ((Fr.refl (fun _ => False) w5).alloc (.cells #[.slice qa n qc, .int .i64 L] 24)) hcq); obtain ⟨p0, p1, _, _⟩ := box2_c (hn5.blk HX4.out fun x => x); obtain ⟨q0, q1, _, _⟩ := box2_c hz; clear hN hn5 hz hcq; go_upto_region 16 with fail; rw [← HB6.out]; go_wp2_with fail; clear p0 p1 q0 q1; refine (alike_any qa a n qc c X L _ HQ5.out (New.crs HN5.out HX.out) HN.out HGX.out.1 (by omega) (by omega)).mono ?_; rintro e w6 ⟨rfl, hN⟩; have HN6 := Lib.hid (HN5.out.trans hN); clear hN; go_wp2; go_ret
        exact ⟨rfl, HN6.out⟩
      · -- an uncurl
        clear HK
        have hsub : ((ny : Nat) : Int) = (n : Nat) - 1 := by have := HN.out; have := HNY.out; omega
        go_wp2; go_ret
        exact ⟨rfl, HN4.out⟩
      · -- a push
        have HU := Lib.hid hb; clear hb HK; have HDM := Lib.hid (do_any ya ny yc Y N 4 ((n : Nat) : Int) ((n + 1 : Nat) : Int) 0 0 false false false w4 HY4.out HNY.out (by omega) (by omega) (by omega)); rw [doO_good HGY.out, show moveO Y N 4 ((n : Nat) : Int) ((n + 1 : Nat) : Int) 0 0 false false false = pullO Y N (n : Nat) ((n + 1 : Nat) : Int) from rfl] at HDM; rw [← HN.out] at HU; rw [HU.out] at HDM; go_wp2_with fail; clear p0 p1 m0 m1 z0 z1
        refine HDM.out.mono ?_
        rintro e w5 ⟨hN, qa, qc, rfl, hcq, _⟩; rw [← HN.out]; have hn5 := hN.alloc (.cells #[.slice qa n qc, .int .i64 L] 24)
        obtain ⟨B6, HB6⟩ : ∃ B, Hid (B = w5.heap.size) := ⟨_, Lib.hid rfl⟩
        have hz : (w5.alloc (.cells #[.slice qa n qc, .int .i64 L] 24)).heap[B6]? = some (.cells #[.slice qa n qc, .int .i64 L] 24 (0, 0)) := by rw [HB6.out]; exact heap_alloc_new _ _
        have HN5 := Lib.hid (HN4.out.trans hn5); have HQ5 := Lib.hid (New.crs ((Fr.refl (fun _ => False) w5).alloc (.cells #[.slice qa n qc, .int .i64 L] 24)) hcq); obtain ⟨p0, p1, _, _⟩ := box2_c (hn5.blk HX4.out fun x => x); obtain ⟨q0, q1, _, _⟩ := box2_c hz; clear hN hn5 hz hcq; go_upto_region 19 with fail; rw [← HB6.out]; go_wp2_with fail; clear p0 p1 q0 q1; refine (alike_any qa a n qc c X L _ HQ5.out (New.crs HN5.out HX.out) HN.out HGX.out.1 (by omega) (by omega)).mono ?_; rintro e w6 ⟨rfl, hN⟩; have HN6 := Lib.hid (HN5.out.trans hN); clear hN; go_wp2; go_ret
        exact ⟨rfl, HN6.out⟩
      · -- a pull
        clear HK
        have hsub : ((ny : Nat) : Int) = (n : Nat) - 2 := by have := HN.out; have := HNY.out; omega
        go_wp2; go_ret
        exact ⟨rfl, HN4.out⟩
      · -- a slide
        have HU := Lib.hid hb; clear hb HK
        obtain rfl : ny = n := by rw [HN.out, HNY.out]; exact hlen
        go_wp2_with fail; clear p0 p1 m0 m1 z0 z1; refine (sback_any a ya ny ny c yc X Y N x w4 (New.crs HN4.out HX.out) HY4.out HN.out HNY.out HGX.out HU.out).mono ?_; rintro e w6 ⟨rfl, hN⟩; have HN6 := Lib.hid (HN4.out.trans hN); clear hN; go_wp2; go_ret
        exact ⟨rfl, HN6.out⟩
  · have hnot : doO X L (moveO X L k x y u v ub vb ov) = .no 7 := by
      unfold doO
      rw [if_neg]
      intro h
      rw [Bool.and_eq_true] at h
      exact hg h
    rw [hnot] at hM; obtain rfl := hM
    obtain ⟨m, HMy⟩ : ∃ m, Hid (Kn.mayB X L = m) := ⟨_, Lib.hid rfl⟩
    obtain ⟨q, HPl⟩ : ∃ q, Hid (Kn.planarB X = q) := ⟨_, Lib.hid rfl⟩
    have hnb : ¬ (m = true ∧ q = true) := fun h => hg ⟨by rw [HMy.out]; exact h.1, by rw [HPl.out]; exact h.2⟩
    have hn2 := hN.alloc (.cells #[.slice none 0 0, .int .i64 0] 24)
    obtain ⟨B5, HB5⟩ : ∃ B, Hid (B = w2.heap.size) := ⟨_, Lib.hid rfl⟩
    have hz : (w2.alloc (.cells #[.slice none 0 0, .int .i64 0] 24)).heap[B5]? = some (.cells #[.slice none 0 0, .int .i64 0] 24 (0, 0)) := by rw [HB5.out]; exact heap_alloc_new _ _
    have HZ2 := Lib.hid hz; have HN2 := Lib.hid (HN1.out.trans hn2); have HX2 := Lib.hid (hn2.blk HX1.out fun x => x); clear hN hn2 hz hg hnot; obtain ⟨p0, p1, _, _⟩ := box2_c HX2.out; go_wp2_with fail; clear p0 p1; rw [← HB5.out]; refine (cplanar_any a n c X L _ (New.crs HN2.out HX.out) HN.out lx l1 l2).mono ?_; rintro e w3 ⟨hN, h5⟩; rw [HMy.out, HPl.out] at h5; have HN3 := Lib.hid (HN2.out.trans hN); obtain ⟨z0, z1, _, _⟩ := box2_c (hN.blk HZ2.out fun x => x); clear hN
    rcases h5 with ⟨rfl, rfl⟩ | ⟨rfl, rfl⟩
    · obtain rfl : q = false := by cases q; rfl; exact absurd ⟨rfl, rfl⟩ hnb
      go_wp2; go_ret
      exact ⟨rfl, HN3.out⟩
    · go_wp2
      go_ret
      exact ⟨rfl, HN3.out⟩
end Go.Proofs.YtgjmjbgicfkojaaGreat
