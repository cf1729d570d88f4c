/- Walks: the law of closed words under Markov's moves. -/
import Derived.Test.YtdelekkbkpldjaaDoorQ11
import Derived.Test.YtdelekkbkpldjaaDoorQ3
namespace Go.Proofs.YtdelekkbkpldjaaDoor
open Go.RowKit

abbrev LpC (n : Nat) (xs : List Int) : Nat := (List.range n).countP (Kn.freeB xs)
theorem lp_le (n : Nat) (xs : List Int) : LpC n xs ≤ n := by
  have := List.countP_le_length (p := Kn.freeB xs) (l := List.range n)
  rwa [List.length_range] at this
def CloA (w : World) (xs : List Int) (a : Option Addr) (A : List Nat) : Prop := CrsAt w a (Kn.closX xs A) ∧ ∃ N, Kn.Clo xs A N
theorem CloA.new {w w' : World} {xs : List Int} {a : Option Addr} {A : List Nat} (h : CloA w xs a A) (hn : New w w') : CloA w' xs a A := ⟨New.crs hn h.1, h.2⟩
theorem closeR_any (a : Option Addr) (len c n : Nat) (i : Int) (xs : List Int) (w : World) (hi : i = n) (hl : len = xs.length) (h2 : 2 ≤ n) (h5 : n ≤ 5) (hx : IntsAt w a xs) (hw : Kn.LetsM n xs) (lx : xs.length ≤ 16) :
    Calls Tryd.prog 7 #[.int .i64 i, .slice a len c] w fun e w' => ∃ a' c' A, e = .returned (.tuple #[.agg #[.slice a' len c', .int .i64 (LpC n xs : Nat)], .int .i64 0]) ∧ CloA w' xs a' A ∧ New w w' := by
  obtain ⟨t, N, h1, h3, h4⟩ := Kn.close_clo hw
  refine (close_any a len c n i xs w hi hl h2 h5 hx hw lx t h1).mono ?_
  rintro e w' ⟨a', c', rfl, hc, hn⟩
  exact ⟨a', c', t.A, by rw [h4], ⟨hc, N, h3⟩, hn⟩
theorem jonesR_any (a : Option Addr) (len c n : Nat) (xs : List Int) (A : List Nat) (w : World) (hl : len = xs.length) (h : CloA w xs a A) (hw : Kn.LetsM n xs) (h2 : 2 ≤ n) (h5 : n ≤ 5) (lx : xs.length ≤ 10) (ht : EnvT w) :
    Calls Tryd.prog 10 #[.agg #[.slice a len c, .int .i64 (LpC n xs : Nat)]] w (fun e w' => New w w' ∧ ∃ v m, e = .returned (.tuple #[v, .int .i64 0]) ∧ Ts w' v m ∧ m.length ≤ 1000000 ∧ JonesIs (Kn.closX xs A) (LpC n xs) m) := by
  obtain ⟨hc, N, hN⟩ := h
  have := lp_le n xs
  exact jones_any a len c (Kn.closX xs A) (LpC n xs) w hc (by rw [Kn.closX_len]; exact hl) (by omega) (by omega) (by omega) (clos_op hN hw (by omega) (by omega) (by omega)) ht
theorem alexR_any (a : Option Addr) (len c n : Nat) (xs : List Int) (A : List Nat) (w : World) (hl : len = xs.length) (h : CloA w xs a A) (hw : Kn.LetsM n xs) (h2 : 2 ≤ n) (h5 : n ≤ 5) (lx : xs.length ≤ 9) :
    Calls Tryd.prog 12 #[.agg #[.slice a len c, .int .i64 (LpC n xs : Nat)]] w (fun e w' => New w w' ∧ ∃ v m, e = .returned (.tuple #[v, .int .i64 0]) ∧ Ts w' v m ∧ Pl.size m ≤ 4 ^ xs.length ∧ m.length ≤ 1000000 ∧ Kn.AlexIs (Kn.closX xs A) (LpC n xs) m) := by
  obtain ⟨hc, N, hN⟩ := h
  have := lp_le n xs
  refine (alexander_any a len c (Kn.closX xs A) (LpC n xs) w hc (by rw [Kn.closX_len]; exact hl) (by omega) (by omega) (clos_op hN hw (by omega) (by omega) (by omega))).mono ?_
  rintro e w' ⟨hn, v, m, rfl, ht, hs, ha⟩
  rw [Kn.closX_len] at hs
  have h1 := form_size ha.1.1
  have h3 : 4 ^ xs.length ≤ 4 ^ 9 := Nat.pow_le_pow_right (by decide) lx
  have h4 : (4 : Nat) ^ 9 ≤ 1000000 := by decide
  exact ⟨hn, v, m, rfl, ht, hs, by omega, ha⟩
theorem tab3 {W : World} {a b c : Option Addr} {la lb lc ka kb kc : Nat} {x y z : List Int} (hx : IntsAt W a x) (hy : IntsAt W b y) (hz : IntsAt W c z) (e1 : la = x.length) (e2 : lb = y.length) (e3 : lc = z.length) :
    TabR (W.alloc (.cells #[.slice a la ka, .slice b lb kb, .slice c lc kc] 22)) (some ⟨W.heap.size, 0, none⟩) [x, y, z] := by
  subst e1 e2 e3
  have hg : (W.alloc (.cells #[.slice a x.length ka, .slice b y.length kb, .slice c z.length kc] 22)).heap[W.heap.size]? = some (.cells #[.slice a x.length ka, .slice b y.length kb, .slice c z.length kc] 22 (0, 0)) := heap_alloc_new W _
  have hn : New W (W.alloc (.cells #[.slice a x.length ka, .slice b y.length kb, .slice c z.length kc] 22)) := (Fr.refl _ _).alloc _
  refine .inr ⟨_, 0, rfl, fun k hk => ?_⟩
  have hk' : k < 3 := by simpa using hk
  match k, hk' with
  | 0, _ => exact ⟨a, ka, (cell_of_row _ _ 0 _ 22 (0, 0) hg).trans rfl, New.ints hn hx⟩
  | 1, _ => exact ⟨b, kb, (cell_of_row _ _ 1 _ 22 (0, 0) hg).trans rfl, New.ints hn hy⟩
  | 2, _ => exact ⟨c, kc, (cell_of_row _ _ 2 _ 22 (0, 0) hg).trans rfl, New.ints hn hz⟩
theorem tab2 {W : World} {a b : Option Addr} {la lb ka kb : Nat} {x y : List Int} (hx : IntsAt W a x) (hy : IntsAt W b y) (e1 : la = x.length) (e2 : lb = y.length) :
    TabR (W.alloc (.cells #[.slice a la ka, .slice b lb kb] 22)) (some ⟨W.heap.size, 0, none⟩) [x, y] := by
  subst e1 e2
  have hg : (W.alloc (.cells #[.slice a x.length ka, .slice b y.length kb] 22)).heap[W.heap.size]? = some (.cells #[.slice a x.length ka, .slice b y.length kb] 22 (0, 0)) := heap_alloc_new W _
  have hn : New W (W.alloc (.cells #[.slice a x.length ka, .slice b y.length kb] 22)) := (Fr.refl _ _).alloc _
  refine .inr ⟨_, 0, rfl, fun k hk => ?_⟩
  have hk' : k < 2 := by simpa using hk
  match k, hk' with
  | 0, _ => exact ⟨a, ka, (cell_of_row _ _ 0 _ 22 (0, 0) hg).trans rfl, New.ints hn hx⟩
  | 1, _ => exact ⟨b, kb, (cell_of_row _ _ 1 _ 22 (0, 0) hg).trans rfl, New.ints hn hy⟩
theorem one_intR (W : World) (q : Int) : IntsAt (W.alloc (.cells #[.int .i64 q] 3)) (some ⟨W.heap.size, 0, none⟩) [q] := by
  have hg : (W.alloc (.cells #[.int .i64 q] 3)).heap[W.heap.size]? = some (.cells #[.int .i64 q] 3 (0, 0)) := heap_alloc_new W _
  refine .inr ⟨_, 0, rfl, fun k hk => ?_⟩
  obtain rfl : k = 0 := by simp at hk; omega
  exact (cell_of_row _ _ 0 _ 3 (0, 0) hg).trans rfl
theorem recip_len (ys : List Int) : (Kn.recip ys).length = ys.length := by simp [Kn.recip]
theorem conj_len (xs ys : List Int) : (ys ++ xs ++ Kn.recip ys).length = ys.length + xs.length + ys.length := by rw [List.length_append, List.length_append, recip_len]
theorem flat3 (x y z : List Int) : [x, y, z].flatten = x ++ y ++ z := by simp
theorem flat2 (x y : List Int) : [x, y].flatten = x ++ y := by simp
theorem box_cells {W : World} {B : Nat} {s v : Value} (h : W.heap[B]? = some (.cells #[s, v] 27 (0, 0))) : W.cell? ⟨B, 0, none⟩ = some s ∧ W.cell? ⟨B, 1, none⟩ = some v := ⟨(cell_of_row _ _ 0 _ 27 (0, 0) h).trans rfl, (cell_of_row _ _ 1 _ 27 (0, 0) h).trans rfl⟩
set_option maxRecDepth 100000 in
set_option maxHeartbeats 4000000 in
theorem law_any (i : Int) (ax ay : Option Addr) (cx cy nx ny : Nat) (X Y : List Int) (u : Bool) (w : World) (i1 : -9223372036854775808 ≤ i) (i2 : i ≤ 9223372036854775807) (hnx : nx = X.length) (hny : ny = Y.length) (hx : IntsAt w ax X) (lx : X.length ≤ 9223372036854775807) (rx : Raw X) (hy : IntsAt w ay Y) (ly : Y.length ≤ 9223372036854775807) (ry : Raw Y) (ht : EnvT w) :
    Calls Tryd.prog 3 #[.int .i64 i, .slice ax nx cx, .slice ay ny cy, .bool u] w fun e w' => e = .returned (.bool true) ∧ New w w' := by
  have HT := Lib.hid ht
  have HX := Lib.hid hx
  have HY := Lib.hid hy
  have HLX := Lib.hid lx
  have HLY := Lib.hid ly
  have HRX := Lib.hid rx
  have HRY := Lib.hid ry
  have HNX := Lib.hid hnx
  have HNY := Lib.hid hny
  obtain ⟨p1, p2⟩ := pick_range (n := i) (m := 3) (by omega)
  have hp := fun W => picked_any i 3 W i1 i2 (by omega) (by omega)
  obtain ⟨p, hpp⟩ := natOf p1
  rw [hpp] at hp p1 p2
  obtain ⟨n, hn⟩ : ∃ n : Nat, (n : Int) = 2 + (p : Int) := ⟨2 + p, by omega⟩
  have h2 : 2 ≤ n := by omega
  have h4 : n ≤ 4 := by omega
  have HPK := Lib.hid hp
  clear ht hx hy lx ly rx ry hnx hny hp p1 hpp
  go_enter Tryd.func3, Tryd.ntmps3
  go_wp2_with fail
  refine (HPK.out _).mono ?_
  rintro e w' ⟨rfl, rfl⟩
  go_wp2_with fail
  rw [← hn]
  have HNP := Lib.hid hn
  clear hn p2
  refine (wordOwn_any ax nx cx n 4 _ _ X _ rfl rfl HNX.out h2 (by omega) (by omega) HX.out HLX.out HRX.out).mono ?_
  rintro e w1 ⟨xs, hxw, hxl, vx, rfl, hox, hn1⟩
  have HN1 := Lib.hid hn1
  obtain ⟨bx, kx, rfl, hix, _⟩ := IntsAt.of_owns hox
  have HXW := Lib.hid hxw
  have HXI := Lib.hid hix
  obtain ⟨lx, HLX'⟩ : ∃ l, Hid (l = xs.length) := ⟨_, Lib.hid rfl⟩
  rw [← HLX'.out] at hxl ⊢
  clear hn1 hox hix hxw
  go_wp2_with fail
  refine (wordOwn_any ay ny cy n 2 _ _ Y _ rfl rfl HNY.out h2 (by omega) (by omega) (New.ints HN1.out HY.out) HLY.out HRY.out).mono ?_
  rintro e w2 ⟨ys, hyw, hyl, vy, rfl, hoy, hn2⟩
  have HN2 : Hid (New w w2) := Lib.hid (HN1.out.trans hn2)
  have HXI2 := Lib.hid (New.ints hn2 HXI.out)
  obtain ⟨bY, ky, rfl, hiy, _⟩ := IntsAt.of_owns hoy
  have HYW := Lib.hid hyw
  have HYI := Lib.hid hiy
  obtain ⟨ly, HLY'⟩ : ∃ l, Hid (l = ys.length) := ⟨_, Lib.hid rfl⟩
  rw [← HLY'.out] at hyl ⊢
  clear hn2 hoy hiy hyw HXI
  go_upto_if 39 with (fail)
  go_cut [12] (fun s12 wx => ∃ q : Int, s12 = .int .i64 q ∧ q.natAbs = n ∧ wx = w2)
  case first =>
    cases u
    · go_wp2_with fail
      go_meet
      exact ⟨-(n : Int), rfl, by omega, rfl⟩
    · go_wp2_with fail
      go_meet
      exact ⟨(n : Int), rfl, by omega, rfl⟩
  case rest =>
  obtain ⟨q, rfl, hq, rfl⟩ := hcut
  go_wp2_with fail
  refine (closeR_any bx lx kx n _ xs _ rfl HLX'.out h2 (by omega) HXI2.out HXW.out (by have := HLX'.out; omega)).mono ?_
  rintro e w3 ⟨a3, c3, A3, rfl, hc3, hn3⟩
  have HC3 := Lib.hid hc3
  have HN3 := Lib.hid hn3
  clear hc3 hn3
  go_wp2_with fail
  obtain ⟨B13, HB13⟩ : ∃ B, Hid (B = w3.heap.size) := ⟨_, Lib.hid rfl⟩
  obtain ⟨v3, HV3⟩ : ∃ v, Hid (v = w3.alloc (.cells #[.slice a3 lx c3, .int .i64 (LpC n xs : Nat)] 27)) := ⟨_, Lib.hid rfl⟩
  have HK13 : Hid (v3.heap[B13]? = some (.cells #[.slice a3 lx c3, .int .i64 (LpC n xs : Nat)] 27 (0, 0))) := Lib.hid (by rw [HV3.out, HB13.out]; exact heap_alloc_new _ _)
  have HNv3 : Hid (New wc v3) := Lib.hid (by rw [HV3.out]; exact HN3.out.alloc _)
  have HC3 : Hid (CloA v3 xs a3 A3) := Lib.hid (HC3.out.new (by rw [HV3.out]; exact (Fr.refl _ _).alloc _))
  rw [← HV3.out, ← HB13.out]
  clear HV3 HB13 HN3
  refine (recip_any bY ly ky ys v3 HLY'.out (New.ints HNv3.out HYI.out) (by have := HLY'.out; omega) ?_).mono ?_
  · intro k
    by_cases hk : k < ys.length
    · have := let_bd (lets_at HYW.out hk); omega
    · rw [List.getD_eq_getElem?_getD, List.getElem?_eq_none (by omega)]; decide
  rintro e w4 ⟨vr, rfl, hor, hn4⟩
  obtain ⟨br, kr, rfl, hir, _⟩ := IntsAt.of_owns hor
  obtain ⟨lr, HLR⟩ : ∃ l, Hid (l = (Kn.recip ys).length) := ⟨_, Lib.hid rfl⟩
  rw [← HLR.out]
  have HN4 := Lib.hid hn4
  have HRI := Lib.hid hir
  clear hor hir hn4
  go_wp2_with fail
  obtain ⟨zs, HZ⟩ : ∃ z, Hid (z = ys ++ xs ++ Kn.recip ys) := ⟨_, Lib.hid rfl⟩
  have HZW : Hid (Kn.LetsM n zs) := Lib.hid (by rw [HZ.out]; exact (HYW.out.app HXW.out).app HYW.out.recip)
  have HZL : Hid (zs.length ≤ 8) := Lib.hid (by rw [HZ.out, conj_len]; have h1 := HLX'.out; have h2 := HLY'.out; omega)
  have hj3 := join_any (some ⟨w4.heap.size, 0, none⟩) 3 3 [ys, xs, Kn.recip ys] _ rfl (tab3 (W := w4) (la := ly) (lb := lx) (lc := lr) (ka := ky) (kb := kx) (kc := kr) (New.ints (HNv3.out.trans HN4.out) HYI.out) (New.ints (HNv3.out.trans HN4.out) HXI2.out) HRI.out HLY'.out HLX'.out HLR.out) (by simp) (by rw [flat3, ← HZ.out]; have := HZL.out; omega)
  rw [flat3, ← HZ.out] at hj3
  refine hj3.mono ?_
  rintro e w5 ⟨bz, kz, rfl, hiz, _, hn5⟩
  have HN5 : Hid (New v3 w5) := Lib.hid ((HN4.out.alloc _).trans hn5)
  have HZI := Lib.hid hiz
  obtain ⟨lz, HLZ⟩ : ∃ l, Hid (l = zs.length) := ⟨_, Lib.hid rfl⟩
  rw [← HLZ.out]
  clear hj3 hiz hn5 HN4 HRI
  go_wp2_with fail
  refine (closeR_any bz lz kz n _ zs _ rfl HLZ.out h2 (by omega) HZI.out HZW.out (by have := HZL.out; omega)).mono ?_
  rintro e w6 ⟨a6, c6, A6, rfl, hc6, hn6⟩
  have HC6 := Lib.hid hc6
  have HN6 := Lib.hid hn6
  clear hc6 hn6
  go_wp2_with fail
  obtain ⟨B15, HB15⟩ : ∃ B, Hid (B = w6.heap.size) := ⟨_, Lib.hid rfl⟩
  obtain ⟨v6, HV6⟩ : ∃ v, Hid (v = w6.alloc (.cells #[.slice a6 lz c6, .int .i64 (LpC n zs : Nat)] 27)) := ⟨_, Lib.hid rfl⟩
  have HK15 : Hid (v6.heap[B15]? = some (.cells #[.slice a6 lz c6, .int .i64 (LpC n zs : Nat)] 27 (0, 0))) := Lib.hid (by rw [HV6.out, HB15.out]; exact heap_alloc_new _ _)
  have HNv6 : Hid (New v3 v6) := Lib.hid (by rw [HV6.out]; exact HN5.out.trans (HN6.out.alloc _))
  have HC6 : Hid (CloA v6 zs a6 A6) := Lib.hid (HC6.out.new (by rw [HV6.out]; exact (Fr.refl _ _).alloc _))
  have hs6 : v6.heap.size = B15 + 1 := by rw [HV6.out, HB15.out]; simp
  rw [← HV6.out, ← HB15.out]
  clear HV6 HB15 HN6 HN5 HZI
  obtain ⟨us, HU⟩ : ∃ z, Hid (z = xs ++ [q]) := ⟨_, Lib.hid rfl⟩
  have HUW : Hid (Kn.LetsM (n + 1) us) := Lib.hid (by
    rw [HU.out]
    refine Kn.LetsM.app (fun c hc => ⟨(HXW.out c hc).ne, by have := (HXW.out c hc).lt; omega⟩) fun c hc => ?_
    rw [List.mem_singleton.1 hc]
    exact ⟨by omega, by omega⟩)
  have HUL : Hid (us.length ≤ 8) := Lib.hid (by rw [HU.out, List.length_append]; have h1 := HLX'.out; simp; omega)
  have hz6 : (v6.alloc (.cells #[.int .i64 q] 3)).heap.size = v6.heap.size + 1 := by simp
  have hj2 := join_any (some ⟨(v6.alloc (.cells #[.int .i64 q] 3)).heap.size, 0, none⟩) 2 2 [xs, [q]] _ rfl (tab2 (W := v6.alloc (.cells #[.int .i64 q] 3)) (la := lx) (lb := 1) (ka := kx) (kb := 1) (New.ints ((HNv3.out.trans HNv6.out).alloc _) HXI2.out) (one_intR v6 q) HLX'.out rfl) (by simp) (by rw [flat2, ← HU.out]; have := HUL.out; omega)
  rw [flat2, ← HU.out, hz6, hs6] at hj2
  refine hj2.mono ?_
  rintro e w7 ⟨bu, ku, rfl, hiu, _, hn7⟩
  have HN7 : Hid (New v6 w7) := Lib.hid ((((Fr.refl _ v6).alloc _).alloc _).trans hn7)
  have HUI := Lib.hid hiu
  obtain ⟨lu, HLU⟩ : ∃ l, Hid (l = us.length) := ⟨_, Lib.hid rfl⟩
  rw [← HLU.out]
  clear hj2 hiu hn7 hz6 hs6
  go_wp2_with fail
  refine (closeR_any bu lu ku (n + 1) _ us _ rfl HLU.out (by omega) (by omega) HUI.out HUW.out (by have := HUL.out; omega)).mono ?_
  rintro e w8 ⟨a8, c8, A8, rfl, hc8, hn8⟩
  have HC8 := Lib.hid hc8
  have HN8 := Lib.hid hn8
  clear hc8 hn8
  have hx8 : New v3 (w8.alloc (.cells #[.slice a8 lu c8, .int .i64 (LpC (n + 1) us : Nat)] 27)) := (HNv6.out.trans (HN7.out.trans HN8.out)).alloc _
  obtain ⟨k1, k2⟩ := box_cells (hx8.blk HK13.out fun x => x)
  go_wp2_with fail
  clear k1 k2
  obtain ⟨B17, HB17⟩ : ∃ B, Hid (B = w8.heap.size) := ⟨_, Lib.hid rfl⟩
  obtain ⟨v8, HV8⟩ : ∃ v, Hid (v = w8.alloc (.cells #[.slice a8 lu c8, .int .i64 (LpC (n + 1) us : Nat)] 27)) := ⟨_, Lib.hid rfl⟩
  have HK17 : Hid (v8.heap[B17]? = some (.cells #[.slice a8 lu c8, .int .i64 (LpC (n + 1) us : Nat)] 27 (0, 0))) := Lib.hid (by rw [HV8.out, HB17.out]; exact heap_alloc_new _ _)
  have HNv8 : Hid (New v6 v8) := Lib.hid (by rw [HV8.out]; exact HN7.out.trans (HN8.out.alloc _))
  have HC8 : Hid (CloA v8 us a8 A8) := Lib.hid (HC8.out.new (by rw [HV8.out]; exact (Fr.refl _ _).alloc _))
  rw [← HV8.out, ← HB17.out]
  have HC3' := Lib.hid (HC3.out.new (HNv6.out.trans HNv8.out))
  have HC6' := Lib.hid (HC6.out.new HNv8.out)
  have HK13' := Lib.hid ((HNv6.out.trans HNv8.out).blk HK13.out fun x => x)
  have HK15' := Lib.hid (HNv8.out.blk HK15.out fun x => x)
  have HNW : Hid (New w v8) := Lib.hid (HN2.out.trans (HNv3.out.trans (HNv6.out.trans HNv8.out)))
  have HTv := Lib.hid (New.envT HNW.out HT.out)
  clear hx8 HV8 HB17 HN7 HN8 HUI HK13 HK15 HC3 HC6
  refine (jonesR_any a3 lx c3 n xs A3 v8 HLX'.out HC3'.out HXW.out h2 (by omega) (by have := HLX'.out; omega) HTv.out).mono ?_
  rintro e w9 ⟨hn9, vj1, m1, rfl, ht1, hl1, hj1⟩
  obtain ⟨aj, cj, rfl, _⟩ := id ht1
  obtain ⟨lj, HLJ⟩ : ∃ l, Hid (l = m1.length) := ⟨_, Lib.hid rfl⟩
  rw [← HLJ.out] at ht1 ⊢
  have HT1 := Lib.hid ht1
  have HL1 := Lib.hid hl1
  have HJ1 := Lib.hid hj1
  have HN9 := Lib.hid hn9
  have hlj : 0 < lj := by
    obtain ⟨_, N, hN⟩ := HC3'.out
    have := jones_pos (n := n) hN (by have := HLX'.out; omega) HJ1.out
    rw [HLJ.out]
    exact List.length_pos_iff.2 this
  obtain ⟨k1, k2⟩ := box_cells (HN9.out.blk HK15'.out fun x => x)
  clear ht1 hl1 hj1 hn9
  go_wp2_with fail
  clear k1 k2
  refine (jonesR_any a6 lz c6 n zs A6 w9 HLZ.out (HC6'.out.new HN9.out) HZW.out h2 (by omega) (by have := HZL.out; omega) (New.envT HN9.out HTv.out)).mono ?_
  rintro e w10 ⟨hn10, vj2, m2, rfl, ht2, hl2, hj2⟩
  have HT2 := Lib.hid ht2
  have HL2 := Lib.hid hl2
  have HN10 := Lib.hid (HN9.out.trans hn10)
  have HT1' := Lib.hid (New.ts hn10 HT1.out)
  have H12 : Hid (m1 = m2) := Lib.hid (by
    obtain ⟨_, N, hN⟩ := HC3'.out
    obtain ⟨_, N', hN'⟩ := HC6'.out
    exact jones_same hN HXW.out (by omega) (by have := HLX'.out; omega) HJ1.out hN' HZW.out (by omega) (by have := HZL.out; omega) hj2 fun A hA => by rw [HZ.out]; exact (Kn.Jv_conj hA HXW.out HYW.out).symm)
  obtain ⟨k1, k2⟩ := box_cells (HN10.out.blk HK17.out fun x => x)
  clear ht2 hl2 hj2 hn10 HT1
  go_wp2_with fail
  clear k1 k2
  refine (jonesR_any a8 lu c8 (n + 1) us A8 w10 HLU.out (HC8.out.new HN10.out) HUW.out (by omega) (by omega) (by have := HUL.out; omega) (New.envT HN10.out HTv.out)).mono ?_
  rintro e w11 ⟨hn11, vj3, m3, rfl, ht3, hl3, hj3⟩
  have HT3 := Lib.hid ht3
  have HL3 := Lib.hid hl3
  have HN11 := Lib.hid (HN10.out.trans hn11)
  have HT1 := Lib.hid (New.ts hn11 HT1'.out)
  have HT2' := Lib.hid (New.ts hn11 HT2.out)
  have H13 : Hid (m1 = m3) := Lib.hid (by
    obtain ⟨_, N, hN⟩ := HC3'.out
    obtain ⟨_, N', hN'⟩ := HC8.out
    exact jones_same hN HXW.out (by omega) (by have := HLX'.out; omega) HJ1.out hN' HUW.out (by omega) (by have := HUL.out; omega) hj3 fun A hA => by rw [HU.out]; exact (Kn.Jv_more hA hq (by omega) HXW.out).symm)
  clear ht3 hl3 hj3 hn11 HT1' HT2
  go_wp2_with fail
  refine (same_any (.slice aj lj cj) vj2 m1 m2 w11 HT1.out HT2'.out HL1.out HL2.out).mono ?_
  rintro e w12 ⟨rfl, hn12⟩
  rw [decide_eq_true H12.out]
  have HN12 := Lib.hid (HN11.out.trans hn12)
  have HT1' := Lib.hid (New.ts hn12 HT1.out)
  have HT3' := Lib.hid (New.ts hn12 HT3.out)
  clear hn12 HT1 HT3
  go_wp2_with fail
  refine (same_any (.slice aj lj cj) vj3 m1 m3 w12 HT1'.out HT3'.out HL1.out HL3.out).mono ?_
  rintro e w13 ⟨rfl, hn13⟩
  rw [decide_eq_true H13.out]
  have HN13 := Lib.hid (HN12.out.trans hn13)
  obtain ⟨k1, k2⟩ := box_cells (HN13.out.blk HK13'.out fun x => x)
  clear hn13 HT1' HT3'
  go_wp2_with fail
  clear k1 k2
  refine (alexR_any a3 lx c3 n xs A3 w13 HLX'.out (HC3'.out.new HN13.out) HXW.out h2 (by omega) (by have := HLX'.out; omega)).mono ?_
  rintro e w14 ⟨hn14, va1, r1, rfl, hta1, _, hla1, ha1⟩
  have HA1 := Lib.hid ha1
  have HTA1 := Lib.hid hta1
  have HLA1 := Lib.hid hla1
  have HN14 := Lib.hid (HN13.out.trans hn14)
  obtain ⟨k1, k2⟩ := box_cells (HN14.out.blk HK15'.out fun x => x)
  clear hn14 ha1 hta1 hla1
  go_wp2_with fail
  clear k1 k2
  refine (alexR_any a6 lz c6 n zs A6 w14 HLZ.out (HC6'.out.new HN14.out) HZW.out h2 (by omega) (by have := HZL.out; omega)).mono ?_
  rintro e w15 ⟨hn15, va2, r2, rfl, hta2, _, hla2, ha2⟩
  have HTA1' := Lib.hid (New.ts hn15 HTA1.out)
  have HTA2 := Lib.hid hta2
  have HLA2 := Lib.hid hla2
  have HN15 := Lib.hid (HN14.out.trans hn15)
  have HA12 : Hid (r1 = r2) := Lib.hid (by
    obtain ⟨_, N, hN⟩ := HC3'.out
    obtain ⟨_, N', hN'⟩ := HC6'.out
    exact alex_eq hN HXW.out h2 hN' HZW.out h2 HA1.out ha2 fun t ht => by rw [HZ.out]; exact (Kn.AL_conj ht (by omega) HXW.out HYW.out).symm ht)
  obtain ⟨k1, k2⟩ := box_cells (HN15.out.blk HK17.out fun x => x)
  clear hn15 ha2 hta2 hla2 HTA1
  go_wp2_with fail
  clear k1 k2
  refine (alexR_any a8 lu c8 (n + 1) us A8 w15 HLU.out (HC8.out.new HN15.out) HUW.out (by omega) (by omega) (by have := HUL.out; omega)).mono ?_
  rintro e w16 ⟨hn16, va3, r3, rfl, hta3, _, hla3, ha3⟩
  have HTA1 := Lib.hid (New.ts hn16 HTA1'.out)
  have HTA2' := Lib.hid (New.ts hn16 HTA2.out)
  have HTA3 := Lib.hid hta3
  have HLA3 := Lib.hid hla3
  have HN16 := Lib.hid (HN15.out.trans hn16)
  have HA13 : Hid (r1 = r3) := Lib.hid (by
    obtain ⟨_, N, hN⟩ := HC3'.out
    obtain ⟨_, N', hN'⟩ := HC8.out
    exact alex_eq hN HXW.out h2 hN' HUW.out (by omega) HA1.out ha3 fun t ht => by rw [HU.out]; exact (Kn.AL_more ht h2 HXW.out hq).symm ht)
  clear hn16 ha3 hta3 hla3 HTA1' HTA2
  go_wp2_with fail
  refine (same_any va1 va2 r1 r2 w16 HTA1.out HTA2'.out HLA1.out HLA2.out).mono ?_
  rintro e w17 ⟨rfl, hn17⟩
  rw [decide_eq_true HA12.out]
  have HN17 := Lib.hid (HN16.out.trans hn17)
  have HTA1' := Lib.hid (New.ts hn17 HTA1.out)
  have HTA3' := Lib.hid (New.ts hn17 HTA3.out)
  clear hn17 HTA1 HTA3
  go_wp2_with fail
  refine (same_any va1 va3 r1 r3 w17 HTA1'.out HTA3'.out HLA1.out HLA3.out).mono ?_
  rintro e w18 ⟨rfl, hn18⟩
  rw [decide_eq_true HA13.out]
  have HN18 := Lib.hid (HN17.out.trans hn18)
  have hlj2 : (0 : Int) < (lj : Int) := by omega
  clear hn18
  go_wp2_with fail
  go_ret
  exact ⟨rfl, HNW.out.trans HN18.out⟩
end Go.Proofs.YtdelekkbkpldjaaDoor
