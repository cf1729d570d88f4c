/- Walks: Close, its strands. -/
import Derived.Test.YtdelekkbkpldjaaDoorQ2
namespace Go.Proofs.YtdelekkbkpldjaaDoor
open Go.RowKit

theorem lets_at {n : Nat} {xs : List Int} (h : Kn.LetsM n xs) {k : Nat} (hk : k < xs.length) : Kn.Let n (xs.getD k 0) := word_get h hk
set_option maxRecDepth 100000 in
set_option maxHeartbeats 4000000 in
theorem close_any (a : Option Addr) (len c n : Nat) (i : Int) (xs : List Int) (w : World) (hi : i = n) (hl : len = xs.length) (h2 : 2 ≤ n) (h5 : n ≤ 5) (hx : IntsAt w a xs) (hw : Kn.LetsM n xs) (lx : xs.length ≤ 16) (T : Kn.CL) (hT : Kn.closeC n xs n = some T) :
    Calls Tryd.prog 7 #[.int .i64 i, .slice a len c] w fun e w' => ∃ a' c', e = .returned (.tuple #[.agg #[.slice a' len c', .int .i64 (T.loops : Nat)], .int .i64 0]) ∧ CrsAt w' a' (Kn.closX xs T.A) ∧ New w w' := by
  subst hi
  obtain ⟨L, HL⟩ : ∃ L, Hid (L = xs.length) := ⟨_, Lib.hid rfl⟩
  have hlL : len = L := by rw [HL.out]; exact hl
  subst hlL
  have hL16 : len ≤ 16 := by rw [HL.out]; exact lx
  have HX := Lib.hid hx
  have HW := Lib.hid hw
  have HT := Lib.hid hT
  have hcheck : Hid (∀ W B, B = W.heap.size → IntsAt W a xs → Calls Tryd.prog 18 #[.int .i64 (n : Int), .slice (some ⟨B, 0, none⟩) 1 1] (W.alloc (.cells #[.slice a len c] 22)) fun e w' => e = .returned (.int .i64 0) ∧ New (W.alloc (.cells #[.slice a len c] 22)) w') := Lib.hid (fun W B hB hW => by
    subst hB
    refine check_any W.heap.size 1 1 n (n : Int) [xs] (fun _ => a) (fun _ => c) _ rfl rfl (by simp) h2 h5 ⟨fun i hi => ?_, fun i hi => ?_⟩ ?_
    · obtain rfl : i = 0 := by simpa using hi
      rw [HL.out]
      exact cell_one_new W (.slice a xs.length c) 22 0 _ rfl
    · obtain rfl : i = 0 := by simpa using hi
      exact New.ints ((Fr.refl _ _).alloc _) hW
    · intro x hx
      rw [List.mem_singleton] at hx
      subst hx
      exact ⟨HW.out, by have := HL.out; omega⟩)
  clear hx hw hT hl lx
  have mk50 := make50 len (by omega)
  have hd16 : decide (16 < (len : Int)) = false := decide_eq_false (by omega)
  have mk51 : ∀ W, (Instr.makeSlice 51 (.int .i64 ((n : Int) + 1)) (.int .i64 ((n : Int) + 1))).run Tryd.prog W = .ok (.slice (some ⟨W.heap.size, 0, none⟩) (n + 1) (n + 1)) (W.alloc (.cells (madeCells #[.bool false] (n + 1)) 4)) := fun W => by
    have := make51 (n + 1) (by omega) W
    rwa [show ((n + 1 : Nat) : Int) = (n : Int) + 1 by omega] at this
  go_enter Tryd.func7, Tryd.ntmps7
  go_wp2_with fail
  refine (hcheck.out _ _ (by simp) (New.ints ((Fr.refl _ _).alloc _) HX.out)).mono ?_
  rintro e w1 ⟨rfl, hF1⟩
  have HR1 : Hid (w1.heap[w.heap.size]? = some (.cells #[.slice none 0 0, .int .i64 0] 27 (0, 0))) := Lib.hid (hF1.blk (((Fr.refl (fun _ => False) _).alloc _).blk (heap_alloc_new w _) fun x => x) fun x => x)
  have HF1 : Hid (New w w1) := Lib.hid ((((Fr.refl _ _).alloc _).alloc _).trans hF1)
  clear hF1 hcheck
  go_wp2_with fail
  obtain ⟨hn0, hm0⟩ := clm_made w1 n len hL16
  obtain ⟨ab, HAB⟩ : ∃ z, Hid (z = w1.heap.size) := ⟨_, Lib.hid rfl⟩
  obtain ⟨db, HDB⟩ : ∃ z, Hid (z = w1.heap.size + 1) := ⟨_, Lib.hid rfl⟩
  obtain ⟨wb, HWB⟩ : ∃ z, Hid (z = w1.heap.size + 1 + 1) := ⟨_, Lib.hid rfl⟩
  rw [← HWB.out, ← HDB.out, ← HAB.out] at hm0 ⊢
  obtain ⟨u0, HU0⟩ : ∃ z, Hid (z = ((w1.alloc (.cells (madeCells #[.int .i64 0, .int .i64 0, .int .i64 0, .int .i64 0] (len * 4)) 54)).alloc (.cells #[.slice none 0 0, .int .i64 0] 27)).alloc (.cells (madeCells #[.bool false] (n + 1)) 4)) := ⟨_, Lib.hid rfl⟩
  rw [← HU0.out] at hn0 hm0 ⊢
  have HM0 := Lib.hid hm0
  have HS0 : Hid (Fr (fun k => k = ab ∨ k = wb ∨ k = db) w1 u0) := Lib.hid (hn0.mono fun _ h => h.elim)
  have HB1 : Hid (w1.heap.size ≤ ab ∧ w1.heap.size ≤ wb ∧ w1.heap.size ≤ db) := Lib.hid (by rw [HAB.out, HWB.out, HDB.out]; omega)
  clear hn0 hm0 HU0 HAB HDB HWB mk50 mk51
  go_loopw [10, 11, 12, 13, 14, 15, 16, 17, 18] (fun nv pv _ _ _ _ _ _ _ wr => ∃ (q : Nat) (t : Kn.CL), q ≤ n ∧ nv = .int .i64 (t.nx : Nat) ∧ pv = .int .i64 ((q : Int) + 1) ∧ t.nx ≤ 1 + 96 * q ∧ t.loops ≤ q ∧ Hid (Kn.closeC n xs q = some t) ∧ Hid (ClM wr ab wb db n len t.A t.W t.loops) ∧ Hid (Fr (fun k => k = ab ∨ k = wb ∨ k = db) w1 wr)) (fun _ pv _ _ _ _ _ _ _ _ => n + 1 - (intOf pv).toNat)
  case atStart => exact ⟨0, _, Nat.zero_le _, rfl, rfl, Nat.le_refl _, Nat.le_refl _, Lib.hid (by rw [Kn.closeC, ← HL.out]), HM0, HS0⟩
  case round =>
    obtain ⟨q, t, hq, rfl, rfl, hnx, hlo, HC, HM, HF⟩ := hrel
    by_cases hlt : q < n
    · obtain ⟨t', ht', hp⟩ := closeC_next HW.out hlt HC.out
      have HC' := Lib.hid ht'
      clear ht'
      have hcell := HM.out.k.cell (i := q + 1) (by omega)
      unfold wkFn at hcell
      have i1 : (0 : Int) ≤ (q : Int) + 1 := by omega
      have i2 : (q : Int) + 1 < (n : Int) + 1 := by omega
      have i3 : (q : Int) + 1 ≤ (n : Int) := by omega
      rcases placeC_cases hp with ⟨hwk, rfl⟩ | ⟨hwk, W9, s9, hst, hend⟩
      · rw [hwk] at hcell
        clear hp hwk
        go_wp2
        go_roundw
        case rel => exact ⟨q + 1, t', by omega, rfl, by go_num, by omega, by omega, HC', HM, HF⟩
        case measure => simp [intOf]; omega
      · rw [hwk] at hcell
        have HST := Lib.hid hst
        have HEND := Lib.hid hend
        clear hp hwk hst hend
        go_wp2_with fail
        obtain ⟨p, HP⟩ : ∃ p : Nat, Hid (p = q + 1) := ⟨_, Lib.hid rfl⟩
        have hpq : (q : Int) + 1 = (p : Nat) := by have := HP.out; omega
        have hp1 : 1 ≤ p := by have := HP.out; omega
        have hpn : p ≤ n := by have := HP.out; omega
        rw [← HP.out] at HST
        rw [hpq]
        clear hcell
        obtain ⟨wo, rfl⟩ : ∃ wo, wo = wr := ⟨_, rfl⟩
        go_loopg [10, 13, 14, 15, 16, 17, 18] (n + 1) (fun f nv lv av _ _ _ _ wr => ∃ (W : List Bool) (s : Kn.CS), nv = .int .i64 (s.nx : Nat) ∧ lv = laV ab s.la ∧ av = .int .i64 (s.at_ : Nat) ∧ f ≤ n + 1 ∧ s.nx ≤ 1 + 96 * q + 16 * (n + 1 - f) ∧ 1 ≤ s.at_ ∧ s.at_ ≤ n ∧ (∀ c, s.la = some c → c < 4 * len) ∧ Hid (Kn.strandC xs f W s = some (W9, s9)) ∧ Hid (ClM wr ab wb db n len s.A W t.loops) ∧ Hid (Fr (fun k => k = ab ∨ k = wb ∨ k = db) w1 wr))
        case atStart => exact ⟨t.W, ⟨p, t.nx, t.A, none⟩, rfl, rfl, rfl, Nat.le_refl _, by simp only; omega, hp1, hpn, (fun c h => by cases h), HST, HM, HF⟩
        case round =>
          obtain ⟨W, s, rfl, rfl, rfl, hfn, hnx2, ha1, ha2, hla, HS2, HM2, HF2⟩ := hrel
          obtain ⟨f', hgk, hcase⟩ := strandC_cases HS2.out
          have hcell := HM2.out.k.cell (i := s.at_) (by omega)
          have hfro := HM2.out.k.frozen s.at_
          unfold wkFn at hcell
          obtain ⟨atN, snx, sA, sla⟩ := s
          simp only at *
          have j1 : (0 : Int) ≤ (atN : Int) := by omega
          have j2 : (atN : Int) < (n : Int) + 1 := by omega
          rcases hcase with ⟨hwk, rfl, rfl⟩ | ⟨hwk, hst⟩
          · rw [hwk] at hcell
            clear hgk hwk hfro
            have hpp : (p : Int) + 1 = ((q + 1 : Nat) : Int) + 1 := by have := HP.out; omega
            rcases HEND.out with ⟨cc, hcc, ht'⟩ | ⟨hcc, ht'⟩
            · simp only at hcc
              have hcl := hla cc hcc
              subst hcc
              have cA := HM2.out.a.cell (i := cc) hcl
              have fA := HM2.out.a.frozen cc
              unfold arcFn at cA
              have HTT := Lib.hid ht'
              have HM5 := Lib.hid (HM2.out.setA (c := cc) hcl t.nx)
              have HF5 := Lib.hid (HF2.out.setCell (a := ⟨ab, cc, none⟩) (.inl (.inl rfl)) (.int .i64 (t.nx : Nat)))
              clear ht' hla
              unfold laV
              simp only [Option.map_some]
              go_wp2
              exact ⟨⟨q + 1, t', by omega, by rw [HTT.out], rfl, by rw [HTT.out]; simp only; omega, by rw [HTT.out]; simp only; omega, HC', Lib.hid (by rw [HTT.out]; exact HM5.out), HF5⟩, by simp [intOf]; omega⟩
            · simp only at hcc
              subst hcc
              have HTT := Lib.hid ht'
              obtain ⟨c0, c1⟩ := two_c HM2.out.d
              have f1 : wr.frozen? ⟨db, 1, none⟩ = false := by simp [World.frozen?, HM2.out.d]
              have hlo9 : t.loops ≤ 10 := by omega
              have HM5 := Lib.hid (HM2.out.setD (t.loops + 1))
              have HF5 := Lib.hid (HF2.out.setCell (a := ⟨db, 1, none⟩) (.inl (.inr (.inr rfl))) (.int .i64 ((t.loops + 1 : Nat) : Int)))
              clear ht' hla
              unfold laV
              simp only [Option.map_none]
              go_wp2
              exact ⟨⟨q + 1, t', by omega, by rw [HTT.out], rfl, by rw [HTT.out]; simp only; omega, by rw [HTT.out]; simp only; omega, HC', Lib.hid (by rw [HTT.out]; exact HM5.out), HF5⟩, by simp [intOf]; omega⟩
          · rw [hwk] at hcell
            have HST2 := Lib.hid hst
            have HGK := Lib.hid hgk
            clear hwk hst hgk
            have HM3 := Lib.hid (HM2.out.setW (c := atN) (by omega))
            have HF3 := Lib.hid (HF2.out.setCell (a := ⟨wb, atN, none⟩) (.inl (.inr (.inl rfl))) (.bool true))
            go_wp2_with fail
            obtain ⟨w3, HW3⟩ : ∃ z, Hid (z = wr.setCell ⟨wb, atN, none⟩ (.bool true)) := ⟨_, Lib.hid rfl⟩
            rw [← HW3.out] at HM3 HF3 ⊢
            obtain ⟨s0, HS0⟩ : ∃ z, Hid (z = (⟨atN, snx, sA, sla⟩ : Kn.CS)) := ⟨_, Lib.hid rfl⟩
            clear hcell hfro HW3
            obtain ⟨f1, hf1⟩ : ∃ z : Nat, Hid (z = f') := ⟨_, Lib.hid rfl⟩
            obtain ⟨W3, HWW⟩ : ∃ z, Hid (z = W.set atN true) := ⟨_, Lib.hid rfl⟩
            rw [← HWW.out] at HM3
            go_loopw [10, 13, 14, 15, 16, 17, 18, 63] (fun nv lv av _ _ _ _ kv wr => ∃ (k : Nat) (s : Kn.CS), k ≤ len ∧ kv = .int .i64 (k : Nat) ∧ nv = .int .i64 (s.nx : Nat) ∧ lv = laV ab s.la ∧ av = .int .i64 (s.at_ : Nat) ∧ s.nx ≤ snx + k ∧ 1 ≤ s.at_ ∧ s.at_ ≤ n ∧ (∀ c, s.la = some c → c < 4 * len) ∧ Hid (s = Kn.passC xs k s0) ∧ Hid (ClM wr ab wb db n len s.A W3 t.loops) ∧ Hid (Fr (fun k => k = ab ∨ k = wb ∨ k = db) w1 wr)) (fun _ _ _ _ _ _ _ kv _ => len - (intOf kv).toNat)
            case atStart => exact ⟨0, ⟨atN, snx, sA, sla⟩, Nat.zero_le _, rfl, rfl, rfl, rfl, Nat.le_refl _, ha1, ha2, hla, Lib.hid HS0.out.symm, HM3, HF3⟩
            case round =>
              obtain ⟨k, s, hk, rfl, rfl, rfl, rfl, hnx3, hb1, hb2, hla3, HP3, HM4, HF4⟩ := hrel
              obtain ⟨at4, nx4, A4, la4⟩ := s
              simp only at *
              by_cases hlt3 : k < len
              · have hkx : k < xs.length := by have := HL.out; omega
                obtain ⟨b, o, rfl, d1⟩ := (New.ints (HF1.out.trans (HF4.out.new3 HB1.out)) HX.out).at hkx
                have hlet := word_get HW.out hkx
                have hst := passC_succ xs k s0
                rw [← HP3.out] at hst
                obtain ⟨y, HY⟩ : ∃ z, Hid (z = xs.getD k 0) := ⟨_, Lib.hid rfl⟩
                rw [← HY.out] at d1 hlet hst
                obtain ⟨m, HMM⟩ : ∃ z, Hid (z = y.natAbs) := ⟨_, Lib.hid rfl⟩
                obtain ⟨y0, y1, y2⟩ := let_bd hlet
                have hmx : max y (-y) = (m : Int) := by have := HMM.out; omega
                have m1 : 1 ≤ m := by have := HMM.out; omega
                have m2 : m < n := by have := HMM.out; omega
                have ky1 : -5 ≤ y := by omega
                have ky2 : y ≤ 5 := by omega
                have k1 : (0 : Int) ≤ (k : Int) := by omega
                have k2 : (k : Int) < (len : Int) := by omega
                have hnx6 : nx4 ≤ 10000 := by omega
                clear y0 y1 y2 hlet
                by_cases c1 : at4 = m
                · rw [stepC_l (by simp only; rw [c1, HMM.out]), ← HMM.out] at hst
                  rw [Nat.mul_comm 4 k] at hst
                  simp only at hst
                  have HST3 := Lib.hid hst
                  have cA := HM4.out.a.cell (i := k * 4) (by omega)
                  have cB := HM4.out.a.cell (i := k * 4 + 1) (by omega)
                  have fA := HM4.out.a.frozen (k * 4)
                  have fB := HM4.out.a.frozen (k * 4 + 1)
                  unfold arcFn at cA cB
                  have HM5 := Lib.hid ((HM4.out.setA (c := k * 4) (by omega) nx4).setA (c := k * 4 + 1) (by omega) (nx4 + 1))
                  have HF5 := Lib.hid ((HF4.out.setCell (a := ⟨ab, k * 4, none⟩) (.inl (.inl rfl)) (.int .i64 (nx4 : Nat))).setCell (a := ⟨ab, k * 4 + 1, none⟩) (.inl (.inl rfl)) (.int .i64 ((nx4 + 1 : Nat) : Int)))
                  clear hst
                  subst c1
                  go_wp2_with fail
                  exact ⟨⟨k + 1, _, by omega, rfl, rfl, rfl, rfl, by simp only; omega, by simp only; omega, by simp only; omega, (fun c hc => by simp only [Option.some.injEq] at hc; omega), Lib.hid HST3.out.symm, HM5, HF5⟩, by simp [intOf]; omega⟩
                · by_cases c2 : at4 = m + 1
                  · rw [stepC_r (by simp only; rw [c2, HMM.out]), ← HMM.out] at hst
                    rw [Nat.mul_comm 4 k] at hst
                    simp only at hst
                    have HST3 := Lib.hid hst
                    have cA := HM4.out.a.cell (i := k * 4 + 2) (by omega)
                    have cB := HM4.out.a.cell (i := k * 4 + 2 + 1) (by omega)
                    have fA := HM4.out.a.frozen (k * 4 + 2)
                    have fB := HM4.out.a.frozen (k * 4 + 2 + 1)
                    unfold arcFn at cA cB
                    have HM5 := Lib.hid ((HM4.out.setA (c := k * 4 + 2) (by omega) nx4).setA (c := k * 4 + 2 + 1) (by omega) (nx4 + 1))
                    have HF5 := Lib.hid ((HF4.out.setCell (a := ⟨ab, k * 4 + 2, none⟩) (.inl (.inl rfl)) (.int .i64 (nx4 : Nat))).setCell (a := ⟨ab, k * 4 + 2 + 1, none⟩) (.inl (.inl rfl)) (.int .i64 ((nx4 + 1 : Nat) : Int)))
                    clear hst c1
                    subst c2
                    go_wp2_with fail
                    exact ⟨⟨k + 1, _, by omega, rfl, rfl, rfl, rfl, by simp only; omega, by simp only; omega, by simp only; omega, (fun c hc => by simp only [Option.some.injEq] at hc; omega), Lib.hid HST3.out.symm, HM5, HF5⟩, by simp [intOf]; omega⟩
                  · rw [stepC_n (by simp only; rw [← HMM.out]; exact c1) (by simp only; rw [← HMM.out]; exact c2)] at hst
                    have HST3 := Lib.hid hst
                    have d1' : ¬ (at4 : Int) = (m : Int) := by omega
                    have d2' : ¬ (at4 : Int) = (m : Int) + 1 := by omega
                    clear hst c1 c2
                    go_wp2_with fail
                    exact ⟨⟨k + 1, _, by omega, rfl, rfl, rfl, rfl, by simp only; omega, by simp only; omega, by simp only; omega, hla3, Lib.hid HST3.out.symm, HM4, HF4⟩, by simp [intOf]; omega⟩
              · obtain rfl : len = k := by omega
                have HST4 : Hid (Kn.strandC xs f1 W3 ⟨at4, nx4, A4, la4⟩ = some (W9, s9)) := Lib.hid (by rw [hf1.out, HWW.out, HP3.out, HS0.out, HL.out]; exact HST2.out)
                have hgk4 : f1 + 1 = gk := by have := HGK.out; have := hf1.out; omega
                go_wp2
                go_roundg f1
                case rel => exact ⟨W3, ⟨at4, nx4, A4, la4⟩, rfl, rfl, rfl, by omega, by simp only; omega, hb1, hb2, hla3, HST4, HM4, HF4⟩
                case measure => omega
    · obtain rfl : n = q := by omega
      have e : t = T := by have := HC.out; rw [HT.out] at this; exact (Option.some.inj this).symm
      subst e
      have HB0 : Hid (w1.heap.size ≤ wr.heap.size) := Lib.hid HF.out.size
      have HD := Lib.hid (HM.out.dgc HB0.out)
      have HNW : Hid (New w1 wr) := Lib.hid (HF.out.new3 HB1.out)
      have HDB : Hid (w1.heap.size ≤ db) := Lib.hid HB1.out.2.2
      obtain ⟨i0, hi, hz0, hz1, hz2⟩ := info_parts Tryd.info56
      obtain ⟨wo, rfl⟩ : ∃ wo, wo = wr := ⟨_, rfl⟩
      go_wp2_with fail
      go_loopw [19, 20, 21, 22, 112] (fun _ _ _ _ kv wr => ∃ (k : Nat) (sv : Value), k ≤ len ∧ kv = .int .i64 (k : Nat) ∧ Hid (DgC w1.heap.size wr ab db len t.A t.loops sv ((Kn.closX xs t.A).take k)) ∧ Hid (New w1 wr)) (fun _ _ _ _ kv _ => len - (intOf kv).toNat)
      case atStart => exact ⟨0, _, Nat.zero_le _, rfl, Lib.hid (by rw [List.take_zero]; exact HD.out), HNW⟩
      case round =>
        obtain ⟨k, sv, hk, rfl, HG, HNk⟩ := hrel
        by_cases hlt : k < len
        · have hkx : k < xs.length := by have := HL.out; omega
          obtain ⟨b, o, rfl, d1⟩ := (New.ints (HF1.out.trans HNk.out) HX.out).at hkx
          have htk := closX_take (A := t.A) hkx
          obtain ⟨y, HY⟩ : ∃ z, Hid (z = xs.getD k 0) := ⟨_, Lib.hid rfl⟩
          rw [← HY.out] at d1 htk
          have k1 : (0 : Int) ≤ (k : Int) := by omega
          have k2 : (k : Int) < (len : Int) := by omega
          rw [Nat.mul_comm 4 k] at htk
          have c0 := HG.out.a.cell (i := k * 4) (by omega)
          have c1 := HG.out.a.cell (i := k * 4 + 1) (by omega)
          have c2 := HG.out.a.cell (i := k * 4 + 2) (by omega)
          have c3 := HG.out.a.cell (i := k * 4 + 2 + 1) (by omega)
          unfold arcFn at c0 c1 c2 c3
          obtain ⟨e0, HE0⟩ : ∃ z, Hid (z = t.A.getD (k * 4) 0) := ⟨_, Lib.hid rfl⟩
          obtain ⟨e1, HE1⟩ : ∃ z, Hid (z = t.A.getD (k * 4 + 1) 0) := ⟨_, Lib.hid rfl⟩
          obtain ⟨e2, HE2⟩ : ∃ z, Hid (z = t.A.getD (k * 4 + 2) 0) := ⟨_, Lib.hid rfl⟩
          obtain ⟨e3, HE3⟩ : ∃ z, Hid (z = t.A.getD (k * 4 + 2 + 1) 0) := ⟨_, Lib.hid rfl⟩
          rw [← HE0.out] at c0
          rw [← HE1.out] at c1
          rw [← HE2.out] at c2
          rw [← HE3.out] at c3
          have htk : Hid ((Kn.closX xs t.A).take (k + 1) = (Kn.closX xs t.A).take k ++ [Kn.mkC y e0 e1 e2 e3]) := Lib.hid (by rw [htk, HE0.out, HE1.out, HE2.out, HE3.out])
          have hab : ab < wr.heap.size := HG.out.a.lt
          have hab1 : ab < wr.heap.size + 1 := by omega
          obtain ⟨B, HB⟩ : ∃ z, Hid (z = wr.heap.size) := ⟨_, Lib.hid rfl⟩
          go_upto_region 39 with fail
          go_cut [21, 22] (fun s21 s22 wx => Hid (Box2 wr wx s21 s22 e0 e1 e2 e3))
          case first =>
            go_region
            all_goals
              go_wp2_with fail
              go_meet
              refine Lib.hid ?_
              first
                | exact box2_a wr e0 e1 e2 e3
                | exact box2_b wr e0 e1 e2 e3
          case rest =>
          obtain ⟨B1, B2, rfl, rfl, hx1, hx2, hne, hl1, hl2, hnw⟩ := Hid.out hcut
          obtain ⟨w2, rfl⟩ : ∃ w2, w2 = wc := ⟨_, rfl⟩
          have HX1 := Lib.hid hx1
          have HX2 := Lib.hid hx2
          have HN2 := Lib.hid hnw
          have HNE := Lib.hid hne
          clear hcut hx1 hx2 hne hnw c0 c1 c2 c3 HB d1 hab hab1
          by_cases hy : 0 < y
          · obtain ⟨a0, a1, a2, a3⟩ := box2_c HX1.out
            obtain ⟨b0, b1, b2, b3⟩ := box2_c HX2.out
            have F1 : Fr (fun k => k = B1 ∨ k = B2) w2 ((((w2.setCell ⟨B1, 0, none⟩ (.int .i64 (e2 : Nat))).setCell ⟨B1, 1, none⟩ (.int .i64 (e3 : Nat))).setCell ⟨B2, 0, none⟩ (.int .i64 (e0 : Nat))).setCell ⟨B2, 1, none⟩ (.int .i64 (e1 : Nat))) :=
              ((((Fr.refl (fun k => k = B1 ∨ k = B2) w2).setCell (a := ⟨B1, 0, none⟩) (.inl (.inl rfl)) _).setCell (a := ⟨B1, 1, none⟩) (.inl (.inl rfl)) _).setCell (a := ⟨B2, 0, none⟩) (.inl (.inr rfl)) _).setCell (a := ⟨B2, 1, none⟩) (.inl (.inr rfl)) _
            have HG2 := HG.out.nw HN2.out
            have n1 : ¬ (db = B1 ∨ db = B2) := fun e => by
              rcases e with e | e
              · have := HX1.out; rw [← e, HG2.box] at this; simp at this
              · have := HX2.out; rw [← e, HG2.box] at this; simp at this
            have n2 : ¬ (ab = B1 ∨ ab = B2) := fun e => by
              rcases e with e | e
              · exact blk_ne HX1.out HG2.a (by decide) e.symm
              · exact blk_ne HX2.out HG2.a (by decide) e.symm
            have HG3 : Hid (DgC w1.heap.size ((((w2.setCell ⟨B1, 0, none⟩ (.int .i64 (e2 : Nat))).setCell ⟨B1, 1, none⟩ (.int .i64 (e3 : Nat))).setCell ⟨B2, 0, none⟩ (.int .i64 (e0 : Nat))).setCell ⟨B2, 1, none⟩ (.int .i64 (e1 : Nat))) ab db len t.A t.loops sv ((Kn.closX xs t.A).take k)) := Lib.hid
              ⟨F1.row HG2.a n2, F1.blk HG2.box n1, F1.owns HG2.own fun k hk e => by
                rcases e with e | e
                · exact blk_not_own HX1.out HG2.own (by decide) (e ▸ hk)
                · exact blk_not_own HX2.out HG2.own (by decide) (e ▸ hk), Nat.le_trans HG2.db0 F1.size⟩
            have HNQ : Hid (New w1 ((((w2.setCell ⟨B1, 0, none⟩ (.int .i64 (e2 : Nat))).setCell ⟨B1, 1, none⟩ (.int .i64 (e3 : Nat))).setCell ⟨B2, 0, none⟩ (.int .i64 (e0 : Nat))).setCell ⟨B2, 1, none⟩ (.int .i64 (e1 : Nat)))) := Lib.hid ((HNk.out.trans HN2.out).next F1 fun i hi => .inr (by have := HNk.out.size; rcases hi with rfl | rfl <;> omega))
            have c1 := box2_all HX1.out (.int .i64 (e2 : Nat)) (.int .i64 (e3 : Nat))
            have f2 : Fr (fun k => k = B1) w2 ((w2.setCell ⟨B1, 0, none⟩ (.int .i64 (e2 : Nat))).setCell ⟨B1, 1, none⟩ (.int .i64 (e3 : Nat))) := ((Fr.refl (fun k => k = B1) w2).setCell (a := ⟨B1, 0, none⟩) (.inl rfl) _).setCell (a := ⟨B1, 1, none⟩) (.inl rfl) _
            have c2 := box2_all (f2.blk HX2.out fun e => HNE.out e.symm) (.int .i64 (e0 : Nat)) (.int .i64 (e1 : Nat))
            have f3 : Fr (fun k => k = B2) ((w2.setCell ⟨B1, 0, none⟩ (.int .i64 (e2 : Nat))).setCell ⟨B1, 1, none⟩ (.int .i64 (e3 : Nat))) ((((w2.setCell ⟨B1, 0, none⟩ (.int .i64 (e2 : Nat))).setCell ⟨B1, 1, none⟩ (.int .i64 (e3 : Nat))).setCell ⟨B2, 0, none⟩ (.int .i64 (e0 : Nat))).setCell ⟨B2, 1, none⟩ (.int .i64 (e1 : Nat))) := ((Fr.refl (fun k => k = B2) _).setCell (a := ⟨B2, 0, none⟩) (.inl rfl) _).setCell (a := ⟨B2, 1, none⟩) (.inl rfl) _
            have g0 := f2.cell b0 fun e => HNE.out e.symm
            have g1 := f2.cell b1 fun e => HNE.out e.symm
            have r0 : ((w2.setCell ⟨B1, 0, none⟩ (.int .i64 (e2 : Nat))).setCell ⟨B1, 1, none⟩ (.int .i64 (e3 : Nat))).frozen? ⟨B2, 0, none⟩ = false := by simp [World.frozen?, f2.blk HX2.out fun e => HNE.out e.symm]
            have r1 : ((w2.setCell ⟨B1, 0, none⟩ (.int .i64 (e2 : Nat))).setCell ⟨B1, 1, none⟩ (.int .i64 (e3 : Nat))).frozen? ⟨B2, 1, none⟩ = false := by simp [World.frozen?, f2.blk HX2.out fun e => HNE.out e.symm]
            have HX1 := Lib.hid (f3.blk c1 HNE.out)
            have HX2 := Lib.hid c2
            clear F1 HG2 n1 n2 c1 c2 f2 f3
            go_upto_region 42 with fail
            clear a0 a1 a2 a3 b0 b1 b2 b3 g0 g1 r0 r1
            obtain ⟨wq, HWQ⟩ : ∃ z, Hid (z = (((w2.setCell ⟨B1, 0, none⟩ (.int .i64 (e2 : Nat))).setCell ⟨B1, 1, none⟩ (.int .i64 (e3 : Nat))).setCell ⟨B2, 0, none⟩ (.int .i64 (e0 : Nat))).setCell ⟨B2, 1, none⟩ (.int .i64 (e1 : Nat))) := ⟨_, Lib.hid rfl⟩
            rw [← HWQ.out] at HX1 HX2 HNQ HG3 ⊢
            obtain ⟨qa, qb, qc, qd, pp, HMK⟩ : ∃ qa qb qc qd pp, Hid (Kn.mkCr (e2 : Nat) (e3 : Nat) (e0 : Nat) (e1 : Nat) true = ⟨qa, qb, qc, qd, pp⟩) := ⟨_, _, _, _, _, Lib.hid rfl⟩
            have HTK : Hid ((Kn.closX xs t.A).take (k + 1) = (Kn.closX xs t.A).take k ++ [⟨qa, qb, qc, qd, pp⟩]) := Lib.hid (by rw [htk.out, mkC_mk, if_pos hy, ← HMK.out])
            have HLK : Hid (((Kn.closX xs t.A).take k).length = k) := Lib.hid (by rw [List.length_take, Kn.closX_len]; omega)
            obtain ⟨sa, sc, rfl, _⟩ := own_shape2 HG3.out.own
            rw [HLK.out] at HG3
            have HBF : Hid (∀ v, New wq v → v.cell? ⟨B1, 0, none⟩ = some (.int .i64 (e2 : Nat)) ∧ v.cell? ⟨B1, 1, none⟩ = some (.int .i64 (e3 : Nat)) ∧ v.cell? ⟨B2, 0, none⟩ = some (.int .i64 (e0 : Nat)) ∧ v.cell? ⟨B2, 1, none⟩ = some (.int .i64 (e1 : Nat))) := Lib.hid (fun v hv =>
              ⟨(two_c (hv.blk HX1.out fun x => x)).1, (two_c (hv.blk HX1.out fun x => x)).2, (two_c (hv.blk HX2.out fun x => x)).1, (two_c (hv.blk HX2.out fun x => x)).2⟩)
            have hS := HBF.out _ (Fr.refl (fun _ => False) wq).drew
            have hkl : k ≤ 16 := by omega
            clear HWQ
            refine wp_region_held_drew (S := fun wz => wz.cell? ⟨B1, 0, none⟩ = some (.int .i64 (e2 : Nat)) ∧ wz.cell? ⟨B1, 1, none⟩ = some (.int .i64 (e3 : Nat)) ∧ wz.cell? ⟨B2, 0, none⟩ = some (.int .i64 (e0 : Nat)) ∧ wz.cell? ⟨B2, 1, none⟩ = some (.int .i64 (e1 : Nat))) (by kernel_rfl) hS (fun hHeld => ?_)
            obtain ⟨r0, HR0⟩ : ∃ z, Hid (z = wq.drew) := ⟨_, Lib.hid rfl⟩
            have HN0 : Hid (New wq r0) := Lib.hid (by rw [HR0.out]; exact (Fr.refl _ _).drew)
            have HG3r := Lib.hid (HG3.out.nw HN0.out)
            rw [← HR0.out] at hHeld ⊢
            clear hS HR0
            -- BEGIN42p
            refine' tkO (i := 0) ?_
            (try simp only [Act.put, lq1, lq2, lq3, lq4, lq5, lq6])
            refine' tkO (i := 2) ?_
            (try simp only [Act.put, lq1, lq2, lq3, lq4, lq5, lq6])
            refine' tkO (i := 3) ?_
            (try simp only [Act.put, lq1, lq2, lq3, lq4, lq5, lq6])
            refine' tkO (i := 4) ?_
            (try simp only [Act.put, lq1, lq2, lq3, lq4, lq5, lq6])
            refine' tkO (i := 5) ?_
            (try simp only [Act.put, lq1, lq2, lq3, lq4, lq5, lq6])
            refine wpAnyH_ready (rs := [1, 6]) (by kernel_rfl) (by simp) ?_
            refine AllReadyH.cons rfl (fun K hK => ?_) (AllReadyH.cons rfl (fun K hK => ?_) AllReadyH.nil)
            · skip
              have HNr : Hid (New wq r0) := HN0
              have HNs := HNr
              obtain ⟨q0, _⟩ := two_c HG3r.out.box
              (try simp only [lq1, lq2, lq3])
              go_simp
              clear q0
              refine hK.out _ _ (HBF.out _ (by first | exact HNr.out | exact HNs.out)) (fun hHeld => ?_)
              clear hK K
              (try simp only [Act.put, lq1, lq2, lq3, lq4, lq5, lq6])
              clear HNr HNs
              refine wpAnyH_ready (rs := [6]) (by kernel_rfl) (by simp) ?_
              refine AllReadyH.cons rfl (fun K hK => ?_) AllReadyH.nil
              (try simp only [lq1, lq2, lq3])
              go_simp
              refine (make_any (e2 : Nat) (e3 : Nat) (e0 : Nat) (e1 : Nat) true _).mono ?_
              rintro e r1 ⟨rfl, hr⟩
              have HN1 := Lib.hid hr
              have HNr : Hid (New wq r1) := Lib.hid (HN0.out.trans hr)
              have HG4 := Lib.hid (HG3.out.nw HNr.out)
              rw [HMK.out]
              clear hr
              go_wp2_with fail
              refine hK.out _ _ (HBF.out _ HNr.out) (fun hHeld => ?_)
              clear hK K
              (try simp only [Act.put, lq1, lq2, lq3, lq4, lq5, lq6])
              refine wpAnyH_ready (rs := [7]) (by kernel_rfl) (by simp) ?_
              refine AllReadyH.cons rfl (fun K hK => ?_) AllReadyH.nil
              (try simp only [lq1, lq2, lq3])
              go_simp
              have HNs : Hid (New wq (r1.alloc (.cells #[.int .i64 qa, .int .i64 qb, .int .i64 qc, .int .i64 qd, .bool pp] 56))) := Lib.hid (HNr.out.alloc _)
              have HG5 := Lib.hid (HG4.out.nw ((Fr.refl (fun _ => False) r1).alloc (.cells #[.int .i64 qa, .int .i64 qb, .int .i64 qc, .int .i64 qd, .bool pp] 56)))
              refine hK.out _ _ (HBF.out _ HNs.out) (fun hHeld => ?_)
              clear hK K
              (try simp only [Act.put, lq1, lq2, lq3, lq4, lq5, lq6])
              refine wpAnyH_ready (rs := [8]) (by kernel_rfl) (by simp) ?_
              refine AllReadyH.cons rfl (fun K hK => ?_) AllReadyH.nil
              (try simp only [lq1, lq2, lq3])
              have HOV := Lib.hid HG4.out.own
              rw [HLK.out] at HOV
              have hsz1 := HG4.out.db0
              rw [if_pos (by rfl)]
              refine wp_append_lies _ _ _ 25 rfl w1.heap.size 56 i0 (.agg #[.int .i64 0, .int .i64 0, .int .i64 0, .int .i64 0, .bool false]) 5 40 Tryd.underlying25 hi hz0 hz1 hz2 rfl (by decide) _ k (crCells ((Kn.closX xs t.A).take k)) rfl (World.ownsRow.alloc HOV.out _) ⟨r1.heap.size, 0, none⟩ 1 1 [.int .i64 qa, .int .i64 qb, .int .i64 qc, .int .i64 qd, .bool pp] rfl rfl (five_cells rfl) (one_five _ _ _ _ _) (by omega) (by unfold maxLen; omega) (by omega) (by simp only [World.size_alloc]; omega) _ rfl ?_
              intro g cap w9 hown hgrow _ _
              obtain ⟨hbD, hG9⟩ := HG4.out.app (x := ⟨qa, qb, qc, qd, pp⟩) (by rw [HLK.out]; exact hown) hgrow
              have hx1 := row_app (HNr.out.blk HX1.out fun x => x) HG4.out.own (by decide) hgrow
              have hx2 := row_app (HNr.out.blk HX2.out fun x => x) HG4.out.own (by decide) hgrow
              have hn9 : New w1 w9 := ((HNQ.out.trans HNr.out).alloc _).grown hgrow fun k ek => .inr (own_lb HG4.out.own k ek)
              have hne1 : ¬ B1 = db := fun e => by rw [e, hbD] at hx1; simp at hx1
              have hne2 : ¬ B2 = db := fun e => by rw [e, hbD] at hx2; simp at hx2
              have HY1 := Lib.hid (((Fr.refl (fun k => k = db) w9).setCell (a := ⟨db, 0, none⟩) (.inl rfl) (.slice (some ⟨g, 0, none⟩) (k + 1) cap)).blk hx1 hne1)
              have HY2 := Lib.hid (((Fr.refl (fun k => k = db) w9).setCell (a := ⟨db, 0, none⟩) (.inl rfl) (.slice (some ⟨g, 0, none⟩) (k + 1) cap)).blk hx2 hne2)
              have HN9 : Hid (New w1 (w9.setCell ⟨db, 0, none⟩ (.slice (some ⟨g, 0, none⟩) (k + 1) cap))) := Lib.hid (hn9.setCell (a := ⟨db, 0, none⟩) (.inr HDB.out) _)
              have HG9 := Lib.hid hG9
              have HX1' := Lib.hid hx1
              have HX2' := Lib.hid hx2
              have f0 : w9.frozen? ⟨db, 0, none⟩ = false := by simp [World.frozen?, hbD]
              obtain ⟨g0, _⟩ := two_c hbD
              clear hown hgrow hbD hG9 hx1 hx2 hn9 hne1 hne2
              refine hK.out _ _ ⟨(two_c HX1'.out).1, (two_c HX1'.out).2, (two_c HX2'.out).1, (two_c HX2'.out).2⟩ (fun hHeld => ?_)
              clear hK K
              (try simp only [Act.put, lq1, lq2, lq3, lq4, lq5, lq6])
              refine' tkO (i := 9) ?_
              (try simp only [Act.put, lq1, lq2, lq3, lq4, lq5, lq6])
              refine wpAnyH_ready (rs := [10]) (by kernel_rfl) (by simp) ?_
              refine AllReadyH.cons rfl (fun K hK => ?_) AllReadyH.nil
              (try simp only [lq1, lq2, lq3])
              go_simp
              refine hK.out _ _ ⟨(two_c HY1.out).1, (two_c HY1.out).2, (two_c HY2.out).1, (two_c HY2.out).2⟩ (fun hHeld => ?_)
              clear hK K
              (try simp only [Act.put, lq1, lq2, lq3, lq4, lq5, lq6])
              refine wpAnyH_done (by kernel_rfl) ?_ _
              clear hHeld g0 f0
              go_wp2
              go_roundw
              case rel => exact ⟨k + 1, _, by omega, by go_num, Lib.hid (by rw [HTK.out]; exact HG9.out), HN9⟩
              case measure => simp [intOf]; omega
            · skip
              (try simp only [lq1, lq2, lq3])
              go_simp
              refine (make_any (e2 : Nat) (e3 : Nat) (e0 : Nat) (e1 : Nat) true _).mono ?_
              rintro e r1 ⟨rfl, hr⟩
              have HN1 := Lib.hid hr
              have HNr : Hid (New wq r1) := Lib.hid (HN0.out.trans hr)
              have HG4 := Lib.hid (HG3.out.nw HNr.out)
              rw [HMK.out]
              clear hr
              go_wp2_with fail
              refine hK.out _ _ (HBF.out _ HNr.out) (fun hHeld => ?_)
              clear hK K
              (try simp only [Act.put, lq1, lq2, lq3, lq4, lq5, lq6])
              refine wpAnyH_ready (rs := [1, 7]) (by kernel_rfl) (by simp) ?_
              refine AllReadyH.cons rfl (fun K hK => ?_) (AllReadyH.cons rfl (fun K hK => ?_) AllReadyH.nil)
              · skip
                have HNs := HNr
                obtain ⟨q0, _⟩ := two_c HG4.out.box
                (try simp only [lq1, lq2, lq3])
                go_simp
                clear q0
                refine hK.out _ _ (HBF.out _ (by first | exact HNr.out | exact HNs.out)) (fun hHeld => ?_)
                clear hK K
                (try simp only [Act.put, lq1, lq2, lq3, lq4, lq5, lq6])
                clear HNs
                refine wpAnyH_ready (rs := [7]) (by kernel_rfl) (by simp) ?_
                refine AllReadyH.cons rfl (fun K hK => ?_) AllReadyH.nil
                (try simp only [lq1, lq2, lq3])
                go_simp
                have HNs : Hid (New wq (r1.alloc (.cells #[.int .i64 qa, .int .i64 qb, .int .i64 qc, .int .i64 qd, .bool pp] 56))) := Lib.hid (HNr.out.alloc _)
                have HG5 := Lib.hid (HG4.out.nw ((Fr.refl (fun _ => False) r1).alloc (.cells #[.int .i64 qa, .int .i64 qb, .int .i64 qc, .int .i64 qd, .bool pp] 56)))
                refine hK.out _ _ (HBF.out _ HNs.out) (fun hHeld => ?_)
                clear hK K
                (try simp only [Act.put, lq1, lq2, lq3, lq4, lq5, lq6])
                refine wpAnyH_ready (rs := [8]) (by kernel_rfl) (by simp) ?_
                refine AllReadyH.cons rfl (fun K hK => ?_) AllReadyH.nil
                (try simp only [lq1, lq2, lq3])
                have HOV := Lib.hid HG4.out.own
                rw [HLK.out] at HOV
                have hsz1 := HG4.out.db0
                rw [if_pos (by rfl)]
                refine wp_append_lies _ _ _ 25 rfl w1.heap.size 56 i0 (.agg #[.int .i64 0, .int .i64 0, .int .i64 0, .int .i64 0, .bool false]) 5 40 Tryd.underlying25 hi hz0 hz1 hz2 rfl (by decide) _ k (crCells ((Kn.closX xs t.A).take k)) rfl (World.ownsRow.alloc HOV.out _) ⟨r1.heap.size, 0, none⟩ 1 1 [.int .i64 qa, .int .i64 qb, .int .i64 qc, .int .i64 qd, .bool pp] rfl rfl (five_cells rfl) (one_five _ _ _ _ _) (by omega) (by unfold maxLen; omega) (by omega) (by simp only [World.size_alloc]; omega) _ rfl ?_
                intro g cap w9 hown hgrow _ _
                obtain ⟨hbD, hG9⟩ := HG4.out.app (x := ⟨qa, qb, qc, qd, pp⟩) (by rw [HLK.out]; exact hown) hgrow
                have hx1 := row_app (HNr.out.blk HX1.out fun x => x) HG4.out.own (by decide) hgrow
                have hx2 := row_app (HNr.out.blk HX2.out fun x => x) HG4.out.own (by decide) hgrow
                have hn9 : New w1 w9 := ((HNQ.out.trans HNr.out).alloc _).grown hgrow fun k ek => .inr (own_lb HG4.out.own k ek)
                have hne1 : ¬ B1 = db := fun e => by rw [e, hbD] at hx1; simp at hx1
                have hne2 : ¬ B2 = db := fun e => by rw [e, hbD] at hx2; simp at hx2
                have HY1 := Lib.hid (((Fr.refl (fun k => k = db) w9).setCell (a := ⟨db, 0, none⟩) (.inl rfl) (.slice (some ⟨g, 0, none⟩) (k + 1) cap)).blk hx1 hne1)
                have HY2 := Lib.hid (((Fr.refl (fun k => k = db) w9).setCell (a := ⟨db, 0, none⟩) (.inl rfl) (.slice (some ⟨g, 0, none⟩) (k + 1) cap)).blk hx2 hne2)
                have HN9 : Hid (New w1 (w9.setCell ⟨db, 0, none⟩ (.slice (some ⟨g, 0, none⟩) (k + 1) cap))) := Lib.hid (hn9.setCell (a := ⟨db, 0, none⟩) (.inr HDB.out) _)
                have HG9 := Lib.hid hG9
                have HX1' := Lib.hid hx1
                have HX2' := Lib.hid hx2
                have f0 : w9.frozen? ⟨db, 0, none⟩ = false := by simp [World.frozen?, hbD]
                obtain ⟨g0, _⟩ := two_c hbD
                clear hown hgrow hbD hG9 hx1 hx2 hn9 hne1 hne2
                refine hK.out _ _ ⟨(two_c HX1'.out).1, (two_c HX1'.out).2, (two_c HX2'.out).1, (two_c HX2'.out).2⟩ (fun hHeld => ?_)
                clear hK K
                (try simp only [Act.put, lq1, lq2, lq3, lq4, lq5, lq6])
                refine' tkO (i := 9) ?_
                (try simp only [Act.put, lq1, lq2, lq3, lq4, lq5, lq6])
                refine wpAnyH_ready (rs := [10]) (by kernel_rfl) (by simp) ?_
                refine AllReadyH.cons rfl (fun K hK => ?_) AllReadyH.nil
                (try simp only [lq1, lq2, lq3])
                go_simp
                refine hK.out _ _ ⟨(two_c HY1.out).1, (two_c HY1.out).2, (two_c HY2.out).1, (two_c HY2.out).2⟩ (fun hHeld => ?_)
                clear hK K
                (try simp only [Act.put, lq1, lq2, lq3, lq4, lq5, lq6])
                refine wpAnyH_done (by kernel_rfl) ?_ _
                clear hHeld g0 f0
                go_wp2
                go_roundw
                case rel => exact ⟨k + 1, _, by omega, by go_num, Lib.hid (by rw [HTK.out]; exact HG9.out), HN9⟩
                case measure => simp [intOf]; omega
              · skip
                (try simp only [lq1, lq2, lq3])
                go_simp
                have HNs : Hid (New wq (r1.alloc (.cells #[.int .i64 qa, .int .i64 qb, .int .i64 qc, .int .i64 qd, .bool pp] 56))) := Lib.hid (HNr.out.alloc _)
                have HG5 := Lib.hid (HG4.out.nw ((Fr.refl (fun _ => False) r1).alloc (.cells #[.int .i64 qa, .int .i64 qb, .int .i64 qc, .int .i64 qd, .bool pp] 56)))
                refine hK.out _ _ (HBF.out _ HNs.out) (fun hHeld => ?_)
                clear hK K
                (try simp only [Act.put, lq1, lq2, lq3, lq4, lq5, lq6])
                refine wpAnyH_ready (rs := [1]) (by kernel_rfl) (by simp) ?_
                refine AllReadyH.cons rfl (fun K hK => ?_) AllReadyH.nil
                obtain ⟨q0, _⟩ := two_c HG5.out.box
                (try simp only [lq1, lq2, lq3])
                go_simp
                clear q0
                refine hK.out _ _ (HBF.out _ (by first | exact HNr.out | exact HNs.out)) (fun hHeld => ?_)
                clear hK K
                (try simp only [Act.put, lq1, lq2, lq3, lq4, lq5, lq6])
                refine wpAnyH_ready (rs := [8]) (by kernel_rfl) (by simp) ?_
                refine AllReadyH.cons rfl (fun K hK => ?_) AllReadyH.nil
                (try simp only [lq1, lq2, lq3])
                have HOV := Lib.hid HG4.out.own
                rw [HLK.out] at HOV
                have hsz1 := HG4.out.db0
                rw [if_pos (by rfl)]
                refine wp_append_lies _ _ _ 25 rfl w1.heap.size 56 i0 (.agg #[.int .i64 0, .int .i64 0, .int .i64 0, .int .i64 0, .bool false]) 5 40 Tryd.underlying25 hi hz0 hz1 hz2 rfl (by decide) _ k (crCells ((Kn.closX xs t.A).take k)) rfl (World.ownsRow.alloc HOV.out _) ⟨r1.heap.size, 0, none⟩ 1 1 [.int .i64 qa, .int .i64 qb, .int .i64 qc, .int .i64 qd, .bool pp] rfl rfl (five_cells rfl) (one_five _ _ _ _ _) (by omega) (by unfold maxLen; omega) (by omega) (by simp only [World.size_alloc]; omega) _ rfl ?_
                intro g cap w9 hown hgrow _ _
                obtain ⟨hbD, hG9⟩ := HG4.out.app (x := ⟨qa, qb, qc, qd, pp⟩) (by rw [HLK.out]; exact hown) hgrow
                have hx1 := row_app (HNr.out.blk HX1.out fun x => x) HG4.out.own (by decide) hgrow
                have hx2 := row_app (HNr.out.blk HX2.out fun x => x) HG4.out.own (by decide) hgrow
                have hn9 : New w1 w9 := ((HNQ.out.trans HNr.out).alloc _).grown hgrow fun k ek => .inr (own_lb HG4.out.own k ek)
                have hne1 : ¬ B1 = db := fun e => by rw [e, hbD] at hx1; simp at hx1
                have hne2 : ¬ B2 = db := fun e => by rw [e, hbD] at hx2; simp at hx2
                have HY1 := Lib.hid (((Fr.refl (fun k => k = db) w9).setCell (a := ⟨db, 0, none⟩) (.inl rfl) (.slice (some ⟨g, 0, none⟩) (k + 1) cap)).blk hx1 hne1)
                have HY2 := Lib.hid (((Fr.refl (fun k => k = db) w9).setCell (a := ⟨db, 0, none⟩) (.inl rfl) (.slice (some ⟨g, 0, none⟩) (k + 1) cap)).blk hx2 hne2)
                have HN9 : Hid (New w1 (w9.setCell ⟨db, 0, none⟩ (.slice (some ⟨g, 0, none⟩) (k + 1) cap))) := Lib.hid (hn9.setCell (a := ⟨db, 0, none⟩) (.inr HDB.out) _)
                have HG9 := Lib.hid hG9
                have HX1' := Lib.hid hx1
                have HX2' := Lib.hid hx2
                have f0 : w9.frozen? ⟨db, 0, none⟩ = false := by simp [World.frozen?, hbD]
                obtain ⟨g0, _⟩ := two_c hbD
                clear hown hgrow hbD hG9 hx1 hx2 hn9 hne1 hne2
                refine hK.out _ _ ⟨(two_c HX1'.out).1, (two_c HX1'.out).2, (two_c HX2'.out).1, (two_c HX2'.out).2⟩ (fun hHeld => ?_)
                clear hK K
                (try simp only [Act.put, lq1, lq2, lq3, lq4, lq5, lq6])
                refine' tkO (i := 9) ?_
                (try simp only [Act.put, lq1, lq2, lq3, lq4, lq5, lq6])
                refine wpAnyH_ready (rs := [10]) (by kernel_rfl) (by simp) ?_
                refine AllReadyH.cons rfl (fun K hK => ?_) AllReadyH.nil
                (try simp only [lq1, lq2, lq3])
                go_simp
                refine hK.out _ _ ⟨(two_c HY1.out).1, (two_c HY1.out).2, (two_c HY2.out).1, (two_c HY2.out).2⟩ (fun hHeld => ?_)
                clear hK K
                (try simp only [Act.put, lq1, lq2, lq3, lq4, lq5, lq6])
                refine wpAnyH_done (by kernel_rfl) ?_ _
                clear hHeld g0 f0
                go_wp2
                go_roundw
                case rel => exact ⟨k + 1, _, by omega, by go_num, Lib.hid (by rw [HTK.out]; exact HG9.out), HN9⟩
                case measure => simp [intOf]; omega
            -- END42p
          · have HG3 := Lib.hid (HG.out.nw HN2.out)
            have HNQ : Hid (New w1 w2) := Lib.hid (HNk.out.trans HN2.out)
            go_upto_region 42 with fail
            obtain ⟨wq, HWQ⟩ : ∃ z, Hid (z = w2) := ⟨_, Lib.hid rfl⟩
            rw [← HWQ.out] at HX1 HX2 HNQ HG3 ⊢
            obtain ⟨qa, qb, qc, qd, pp, HMK⟩ : ∃ qa qb qc qd pp, Hid (Kn.mkCr (e0 : Nat) (e1 : Nat) (e2 : Nat) (e3 : Nat) false = ⟨qa, qb, qc, qd, pp⟩) := ⟨_, _, _, _, _, Lib.hid rfl⟩
            have HTK : Hid ((Kn.closX xs t.A).take (k + 1) = (Kn.closX xs t.A).take k ++ [⟨qa, qb, qc, qd, pp⟩]) := Lib.hid (by rw [htk.out, mkC_mk, if_neg hy, ← HMK.out])
            have HLK : Hid (((Kn.closX xs t.A).take k).length = k) := Lib.hid (by rw [List.length_take, Kn.closX_len]; omega)
            obtain ⟨sa, sc, rfl, _⟩ := own_shape2 HG3.out.own
            rw [HLK.out] at HG3
            have HBF : Hid (∀ v, New wq v → v.cell? ⟨B1, 0, none⟩ = some (.int .i64 (e0 : Nat)) ∧ v.cell? ⟨B1, 1, none⟩ = some (.int .i64 (e1 : Nat)) ∧ v.cell? ⟨B2, 0, none⟩ = some (.int .i64 (e2 : Nat)) ∧ v.cell? ⟨B2, 1, none⟩ = some (.int .i64 (e3 : Nat))) := Lib.hid (fun v hv =>
              ⟨(two_c (hv.blk HX1.out fun x => x)).1, (two_c (hv.blk HX1.out fun x => x)).2, (two_c (hv.blk HX2.out fun x => x)).1, (two_c (hv.blk HX2.out fun x => x)).2⟩)
            have hS := HBF.out _ (Fr.refl (fun _ => False) wq).drew
            have hkl : k ≤ 16 := by omega
            clear HWQ
            refine wp_region_held_drew (S := fun wz => wz.cell? ⟨B1, 0, none⟩ = some (.int .i64 (e0 : Nat)) ∧ wz.cell? ⟨B1, 1, none⟩ = some (.int .i64 (e1 : Nat)) ∧ wz.cell? ⟨B2, 0, none⟩ = some (.int .i64 (e2 : Nat)) ∧ wz.cell? ⟨B2, 1, none⟩ = some (.int .i64 (e3 : Nat))) (by kernel_rfl) hS (fun hHeld => ?_)
            obtain ⟨r0, HR0⟩ : ∃ z, Hid (z = wq.drew) := ⟨_, Lib.hid rfl⟩
            have HN0 : Hid (New wq r0) := Lib.hid (by rw [HR0.out]; exact (Fr.refl _ _).drew)
            have HG3r := Lib.hid (HG3.out.nw HN0.out)
            rw [← HR0.out] at hHeld ⊢
            clear hS HR0
            -- BEGIN42m
            refine' tkO (i := 0) ?_
            (try simp only [Act.put, lq1, lq2, lq3, lq4, lq5, lq6])
            refine' tkO (i := 2) ?_
            (try simp only [Act.put, lq1, lq2, lq3, lq4, lq5, lq6])
            refine' tkO (i := 3) ?_
            (try simp only [Act.put, lq1, lq2, lq3, lq4, lq5, lq6])
            refine' tkO (i := 4) ?_
            (try simp only [Act.put, lq1, lq2, lq3, lq4, lq5, lq6])
            refine' tkO (i := 5) ?_
            (try simp only [Act.put, lq1, lq2, lq3, lq4, lq5, lq6])
            refine wpAnyH_ready (rs := [1, 6]) (by kernel_rfl) (by simp) ?_
            refine AllReadyH.cons rfl (fun K hK => ?_) (AllReadyH.cons rfl (fun K hK => ?_) AllReadyH.nil)
            · skip
              have HNr : Hid (New wq r0) := HN0
              have HNs := HNr
              obtain ⟨q0, _⟩ := two_c HG3r.out.box
              (try simp only [lq1, lq2, lq3])
              go_simp
              clear q0
              refine hK.out _ _ (HBF.out _ (by first | exact HNr.out | exact HNs.out)) (fun hHeld => ?_)
              clear hK K
              (try simp only [Act.put, lq1, lq2, lq3, lq4, lq5, lq6])
              clear HNr HNs
              refine wpAnyH_ready (rs := [6]) (by kernel_rfl) (by simp) ?_
              refine AllReadyH.cons rfl (fun K hK => ?_) AllReadyH.nil
              (try simp only [lq1, lq2, lq3])
              go_simp
              refine (make_any (e0 : Nat) (e1 : Nat) (e2 : Nat) (e3 : Nat) false _).mono ?_
              rintro e r1 ⟨rfl, hr⟩
              have HN1 := Lib.hid hr
              have HNr : Hid (New wq r1) := Lib.hid (HN0.out.trans hr)
              have HG4 := Lib.hid (HG3.out.nw HNr.out)
              rw [HMK.out]
              clear hr
              go_wp2_with fail
              refine hK.out _ _ (HBF.out _ HNr.out) (fun hHeld => ?_)
              clear hK K
              (try simp only [Act.put, lq1, lq2, lq3, lq4, lq5, lq6])
              refine wpAnyH_ready (rs := [7]) (by kernel_rfl) (by simp) ?_
              refine AllReadyH.cons rfl (fun K hK => ?_) AllReadyH.nil
              (try simp only [lq1, lq2, lq3])
              go_simp
              have HNs : Hid (New wq (r1.alloc (.cells #[.int .i64 qa, .int .i64 qb, .int .i64 qc, .int .i64 qd, .bool pp] 56))) := Lib.hid (HNr.out.alloc _)
              have HG5 := Lib.hid (HG4.out.nw ((Fr.refl (fun _ => False) r1).alloc (.cells #[.int .i64 qa, .int .i64 qb, .int .i64 qc, .int .i64 qd, .bool pp] 56)))
              refine hK.out _ _ (HBF.out _ HNs.out) (fun hHeld => ?_)
              clear hK K
              (try simp only [Act.put, lq1, lq2, lq3, lq4, lq5, lq6])
              refine wpAnyH_ready (rs := [8]) (by kernel_rfl) (by simp) ?_
              refine AllReadyH.cons rfl (fun K hK => ?_) AllReadyH.nil
              (try simp only [lq1, lq2, lq3])
              have HOV := Lib.hid HG4.out.own
              rw [HLK.out] at HOV
              have hsz1 := HG4.out.db0
              rw [if_pos (by rfl)]
              refine wp_append_lies _ _ _ 25 rfl w1.heap.size 56 i0 (.agg #[.int .i64 0, .int .i64 0, .int .i64 0, .int .i64 0, .bool false]) 5 40 Tryd.underlying25 hi hz0 hz1 hz2 rfl (by decide) _ k (crCells ((Kn.closX xs t.A).take k)) rfl (World.ownsRow.alloc HOV.out _) ⟨r1.heap.size, 0, none⟩ 1 1 [.int .i64 qa, .int .i64 qb, .int .i64 qc, .int .i64 qd, .bool pp] rfl rfl (five_cells rfl) (one_five _ _ _ _ _) (by omega) (by unfold maxLen; omega) (by omega) (by simp only [World.size_alloc]; omega) _ rfl ?_
              intro g cap w9 hown hgrow _ _
              obtain ⟨hbD, hG9⟩ := HG4.out.app (x := ⟨qa, qb, qc, qd, pp⟩) (by rw [HLK.out]; exact hown) hgrow
              have hx1 := row_app (HNr.out.blk HX1.out fun x => x) HG4.out.own (by decide) hgrow
              have hx2 := row_app (HNr.out.blk HX2.out fun x => x) HG4.out.own (by decide) hgrow
              have hn9 : New w1 w9 := ((HNQ.out.trans HNr.out).alloc _).grown hgrow fun k ek => .inr (own_lb HG4.out.own k ek)
              have hne1 : ¬ B1 = db := fun e => by rw [e, hbD] at hx1; simp at hx1
              have hne2 : ¬ B2 = db := fun e => by rw [e, hbD] at hx2; simp at hx2
              have HY1 := Lib.hid (((Fr.refl (fun k => k = db) w9).setCell (a := ⟨db, 0, none⟩) (.inl rfl) (.slice (some ⟨g, 0, none⟩) (k + 1) cap)).blk hx1 hne1)
              have HY2 := Lib.hid (((Fr.refl (fun k => k = db) w9).setCell (a := ⟨db, 0, none⟩) (.inl rfl) (.slice (some ⟨g, 0, none⟩) (k + 1) cap)).blk hx2 hne2)
              have HN9 : Hid (New w1 (w9.setCell ⟨db, 0, none⟩ (.slice (some ⟨g, 0, none⟩) (k + 1) cap))) := Lib.hid (hn9.setCell (a := ⟨db, 0, none⟩) (.inr HDB.out) _)
              have HG9 := Lib.hid hG9
              have HX1' := Lib.hid hx1
              have HX2' := Lib.hid hx2
              have f0 : w9.frozen? ⟨db, 0, none⟩ = false := by simp [World.frozen?, hbD]
              obtain ⟨g0, _⟩ := two_c hbD
              clear hown hgrow hbD hG9 hx1 hx2 hn9 hne1 hne2
              refine hK.out _ _ ⟨(two_c HX1'.out).1, (two_c HX1'.out).2, (two_c HX2'.out).1, (two_c HX2'.out).2⟩ (fun hHeld => ?_)
              clear hK K
              (try simp only [Act.put, lq1, lq2, lq3, lq4, lq5, lq6])
              refine' tkO (i := 9) ?_
              (try simp only [Act.put, lq1, lq2, lq3, lq4, lq5, lq6])
              refine wpAnyH_ready (rs := [10]) (by kernel_rfl) (by simp) ?_
              refine AllReadyH.cons rfl (fun K hK => ?_) AllReadyH.nil
              (try simp only [lq1, lq2, lq3])
              go_simp
              refine hK.out _ _ ⟨(two_c HY1.out).1, (two_c HY1.out).2, (two_c HY2.out).1, (two_c HY2.out).2⟩ (fun hHeld => ?_)
              clear hK K
              (try simp only [Act.put, lq1, lq2, lq3, lq4, lq5, lq6])
              refine wpAnyH_done (by kernel_rfl) ?_ _
              clear hHeld g0 f0
              go_wp2
              go_roundw
              case rel => exact ⟨k + 1, _, by omega, by go_num, Lib.hid (by rw [HTK.out]; exact HG9.out), HN9⟩
              case measure => simp [intOf]; omega
            · skip
              (try simp only [lq1, lq2, lq3])
              go_simp
              refine (make_any (e0 : Nat) (e1 : Nat) (e2 : Nat) (e3 : Nat) false _).mono ?_
              rintro e r1 ⟨rfl, hr⟩
              have HN1 := Lib.hid hr
              have HNr : Hid (New wq r1) := Lib.hid (HN0.out.trans hr)
              have HG4 := Lib.hid (HG3.out.nw HNr.out)
              rw [HMK.out]
              clear hr
              go_wp2_with fail
              refine hK.out _ _ (HBF.out _ HNr.out) (fun hHeld => ?_)
              clear hK K
              (try simp only [Act.put, lq1, lq2, lq3, lq4, lq5, lq6])
              refine wpAnyH_ready (rs := [1, 7]) (by kernel_rfl) (by simp) ?_
              refine AllReadyH.cons rfl (fun K hK => ?_) (AllReadyH.cons rfl (fun K hK => ?_) AllReadyH.nil)
              · skip
                have HNs := HNr
                obtain ⟨q0, _⟩ := two_c HG4.out.box
                (try simp only [lq1, lq2, lq3])
                go_simp
                clear q0
                refine hK.out _ _ (HBF.out _ (by first | exact HNr.out | exact HNs.out)) (fun hHeld => ?_)
                clear hK K
                (try simp only [Act.put, lq1, lq2, lq3, lq4, lq5, lq6])
                clear HNs
                refine wpAnyH_ready (rs := [7]) (by kernel_rfl) (by simp) ?_
                refine AllReadyH.cons rfl (fun K hK => ?_) AllReadyH.nil
                (try simp only [lq1, lq2, lq3])
                go_simp
                have HNs : Hid (New wq (r1.alloc (.cells #[.int .i64 qa, .int .i64 qb, .int .i64 qc, .int .i64 qd, .bool pp] 56))) := Lib.hid (HNr.out.alloc _)
                have HG5 := Lib.hid (HG4.out.nw ((Fr.refl (fun _ => False) r1).alloc (.cells #[.int .i64 qa, .int .i64 qb, .int .i64 qc, .int .i64 qd, .bool pp] 56)))
                refine hK.out _ _ (HBF.out _ HNs.out) (fun hHeld => ?_)
                clear hK K
                (try simp only [Act.put, lq1, lq2, lq3, lq4, lq5, lq6])
                refine wpAnyH_ready (rs := [8]) (by kernel_rfl) (by simp) ?_
                refine AllReadyH.cons rfl (fun K hK => ?_) AllReadyH.nil
                (try simp only [lq1, lq2, lq3])
                have HOV := Lib.hid HG4.out.own
                rw [HLK.out] at HOV
                have hsz1 := HG4.out.db0
                rw [if_pos (by rfl)]
                refine wp_append_lies _ _ _ 25 rfl w1.heap.size 56 i0 (.agg #[.int .i64 0, .int .i64 0, .int .i64 0, .int .i64 0, .bool false]) 5 40 Tryd.underlying25 hi hz0 hz1 hz2 rfl (by decide) _ k (crCells ((Kn.closX xs t.A).take k)) rfl (World.ownsRow.alloc HOV.out _) ⟨r1.heap.size, 0, none⟩ 1 1 [.int .i64 qa, .int .i64 qb, .int .i64 qc, .int .i64 qd, .bool pp] rfl rfl (five_cells rfl) (one_five _ _ _ _ _) (by omega) (by unfold maxLen; omega) (by omega) (by simp only [World.size_alloc]; omega) _ rfl ?_
                intro g cap w9 hown hgrow _ _
                obtain ⟨hbD, hG9⟩ := HG4.out.app (x := ⟨qa, qb, qc, qd, pp⟩) (by rw [HLK.out]; exact hown) hgrow
                have hx1 := row_app (HNr.out.blk HX1.out fun x => x) HG4.out.own (by decide) hgrow
                have hx2 := row_app (HNr.out.blk HX2.out fun x => x) HG4.out.own (by decide) hgrow
                have hn9 : New w1 w9 := ((HNQ.out.trans HNr.out).alloc _).grown hgrow fun k ek => .inr (own_lb HG4.out.own k ek)
                have hne1 : ¬ B1 = db := fun e => by rw [e, hbD] at hx1; simp at hx1
                have hne2 : ¬ B2 = db := fun e => by rw [e, hbD] at hx2; simp at hx2
                have HY1 := Lib.hid (((Fr.refl (fun k => k = db) w9).setCell (a := ⟨db, 0, none⟩) (.inl rfl) (.slice (some ⟨g, 0, none⟩) (k + 1) cap)).blk hx1 hne1)
                have HY2 := Lib.hid (((Fr.refl (fun k => k = db) w9).setCell (a := ⟨db, 0, none⟩) (.inl rfl) (.slice (some ⟨g, 0, none⟩) (k + 1) cap)).blk hx2 hne2)
                have HN9 : Hid (New w1 (w9.setCell ⟨db, 0, none⟩ (.slice (some ⟨g, 0, none⟩) (k + 1) cap))) := Lib.hid (hn9.setCell (a := ⟨db, 0, none⟩) (.inr HDB.out) _)
                have HG9 := Lib.hid hG9
                have HX1' := Lib.hid hx1
                have HX2' := Lib.hid hx2
                have f0 : w9.frozen? ⟨db, 0, none⟩ = false := by simp [World.frozen?, hbD]
                obtain ⟨g0, _⟩ := two_c hbD
                clear hown hgrow hbD hG9 hx1 hx2 hn9 hne1 hne2
                refine hK.out _ _ ⟨(two_c HX1'.out).1, (two_c HX1'.out).2, (two_c HX2'.out).1, (two_c HX2'.out).2⟩ (fun hHeld => ?_)
                clear hK K
                (try simp only [Act.put, lq1, lq2, lq3, lq4, lq5, lq6])
                refine' tkO (i := 9) ?_
                (try simp only [Act.put, lq1, lq2, lq3, lq4, lq5, lq6])
                refine wpAnyH_ready (rs := [10]) (by kernel_rfl) (by simp) ?_
                refine AllReadyH.cons rfl (fun K hK => ?_) AllReadyH.nil
                (try simp only [lq1, lq2, lq3])
                go_simp
                refine hK.out _ _ ⟨(two_c HY1.out).1, (two_c HY1.out).2, (two_c HY2.out).1, (two_c HY2.out).2⟩ (fun hHeld => ?_)
                clear hK K
                (try simp only [Act.put, lq1, lq2, lq3, lq4, lq5, lq6])
                refine wpAnyH_done (by kernel_rfl) ?_ _
                clear hHeld g0 f0
                go_wp2
                go_roundw
                case rel => exact ⟨k + 1, _, by omega, by go_num, Lib.hid (by rw [HTK.out]; exact HG9.out), HN9⟩
                case measure => simp [intOf]; omega
              · skip
                (try simp only [lq1, lq2, lq3])
                go_simp
                have HNs : Hid (New wq (r1.alloc (.cells #[.int .i64 qa, .int .i64 qb, .int .i64 qc, .int .i64 qd, .bool pp] 56))) := Lib.hid (HNr.out.alloc _)
                have HG5 := Lib.hid (HG4.out.nw ((Fr.refl (fun _ => False) r1).alloc (.cells #[.int .i64 qa, .int .i64 qb, .int .i64 qc, .int .i64 qd, .bool pp] 56)))
                refine hK.out _ _ (HBF.out _ HNs.out) (fun hHeld => ?_)
                clear hK K
                (try simp only [Act.put, lq1, lq2, lq3, lq4, lq5, lq6])
                refine wpAnyH_ready (rs := [1]) (by kernel_rfl) (by simp) ?_
                refine AllReadyH.cons rfl (fun K hK => ?_) AllReadyH.nil
                obtain ⟨q0, _⟩ := two_c HG5.out.box
                (try simp only [lq1, lq2, lq3])
                go_simp
                clear q0
                refine hK.out _ _ (HBF.out _ (by first | exact HNr.out | exact HNs.out)) (fun hHeld => ?_)
                clear hK K
                (try simp only [Act.put, lq1, lq2, lq3, lq4, lq5, lq6])
                refine wpAnyH_ready (rs := [8]) (by kernel_rfl) (by simp) ?_
                refine AllReadyH.cons rfl (fun K hK => ?_) AllReadyH.nil
                (try simp only [lq1, lq2, lq3])
                have HOV := Lib.hid HG4.out.own
                rw [HLK.out] at HOV
                have hsz1 := HG4.out.db0
                rw [if_pos (by rfl)]
                refine wp_append_lies _ _ _ 25 rfl w1.heap.size 56 i0 (.agg #[.int .i64 0, .int .i64 0, .int .i64 0, .int .i64 0, .bool false]) 5 40 Tryd.underlying25 hi hz0 hz1 hz2 rfl (by decide) _ k (crCells ((Kn.closX xs t.A).take k)) rfl (World.ownsRow.alloc HOV.out _) ⟨r1.heap.size, 0, none⟩ 1 1 [.int .i64 qa, .int .i64 qb, .int .i64 qc, .int .i64 qd, .bool pp] rfl rfl (five_cells rfl) (one_five _ _ _ _ _) (by omega) (by unfold maxLen; omega) (by omega) (by simp only [World.size_alloc]; omega) _ rfl ?_
                intro g cap w9 hown hgrow _ _
                obtain ⟨hbD, hG9⟩ := HG4.out.app (x := ⟨qa, qb, qc, qd, pp⟩) (by rw [HLK.out]; exact hown) hgrow
                have hx1 := row_app (HNr.out.blk HX1.out fun x => x) HG4.out.own (by decide) hgrow
                have hx2 := row_app (HNr.out.blk HX2.out fun x => x) HG4.out.own (by decide) hgrow
                have hn9 : New w1 w9 := ((HNQ.out.trans HNr.out).alloc _).grown hgrow fun k ek => .inr (own_lb HG4.out.own k ek)
                have hne1 : ¬ B1 = db := fun e => by rw [e, hbD] at hx1; simp at hx1
                have hne2 : ¬ B2 = db := fun e => by rw [e, hbD] at hx2; simp at hx2
                have HY1 := Lib.hid (((Fr.refl (fun k => k = db) w9).setCell (a := ⟨db, 0, none⟩) (.inl rfl) (.slice (some ⟨g, 0, none⟩) (k + 1) cap)).blk hx1 hne1)
                have HY2 := Lib.hid (((Fr.refl (fun k => k = db) w9).setCell (a := ⟨db, 0, none⟩) (.inl rfl) (.slice (some ⟨g, 0, none⟩) (k + 1) cap)).blk hx2 hne2)
                have HN9 : Hid (New w1 (w9.setCell ⟨db, 0, none⟩ (.slice (some ⟨g, 0, none⟩) (k + 1) cap))) := Lib.hid (hn9.setCell (a := ⟨db, 0, none⟩) (.inr HDB.out) _)
                have HG9 := Lib.hid hG9
                have HX1' := Lib.hid hx1
                have HX2' := Lib.hid hx2
                have f0 : w9.frozen? ⟨db, 0, none⟩ = false := by simp [World.frozen?, hbD]
                obtain ⟨g0, _⟩ := two_c hbD
                clear hown hgrow hbD hG9 hx1 hx2 hn9 hne1 hne2
                refine hK.out _ _ ⟨(two_c HX1'.out).1, (two_c HX1'.out).2, (two_c HX2'.out).1, (two_c HX2'.out).2⟩ (fun hHeld => ?_)
                clear hK K
                (try simp only [Act.put, lq1, lq2, lq3, lq4, lq5, lq6])
                refine' tkO (i := 9) ?_
                (try simp only [Act.put, lq1, lq2, lq3, lq4, lq5, lq6])
                refine wpAnyH_ready (rs := [10]) (by kernel_rfl) (by simp) ?_
                refine AllReadyH.cons rfl (fun K hK => ?_) AllReadyH.nil
                (try simp only [lq1, lq2, lq3])
                go_simp
                refine hK.out _ _ ⟨(two_c HY1.out).1, (two_c HY1.out).2, (two_c HY2.out).1, (two_c HY2.out).2⟩ (fun hHeld => ?_)
                clear hK K
                (try simp only [Act.put, lq1, lq2, lq3, lq4, lq5, lq6])
                refine wpAnyH_done (by kernel_rfl) ?_ _
                clear hHeld g0 f0
                go_wp2
                go_roundw
                case rel => exact ⟨k + 1, _, by omega, by go_num, Lib.hid (by rw [HTK.out]; exact HG9.out), HN9⟩
                case measure => simp [intOf]; omega
            -- END42m
        · obtain rfl : len = k := by omega
          have hlen : (Kn.closX xs t.A).length = len := by rw [Kn.closX_len, HL.out]
          have hG := HG.out
          rw [List.take_of_length_le (by omega)] at hG
          obtain ⟨sa, sc, rfl, hcr⟩ := crs_own hG.own
          have HOW := Lib.hid hG.own
          rw [hlen] at hG
          obtain ⟨d0, d1⟩ := two_c hG.box
          have hb7 := HNk.out.blk HR1.out fun x => x
          obtain ⟨r0, r1⟩ := two_c hb7
          have f0 : wr.frozen? ⟨w.heap.size, 0, none⟩ = false := by simp [World.frozen?, hb7]
          have f1 : wr.frozen? ⟨w.heap.size, 1, none⟩ = false := by simp [World.frozen?, hb7]
          have HCR := Lib.hid hcr
          have HB7 := Lib.hid hb7
          clear hG hb7 hcr
          go_wp2_with fail
          obtain ⟨e0, e1⟩ := two_c (box2_all HB7.out (Value.slice sa len sc) (.int .i64 (t.loops : Nat)))
          have HF9 : Hid (Fr (fun k => k = w.heap.size) wr ((wr.setCell ⟨w.heap.size, 0, none⟩ (Value.slice sa len sc)).setCell ⟨w.heap.size, 1, none⟩ (.int .i64 (t.loops : Nat)))) := Lib.hid (((Fr.refl (fun k => k = w.heap.size) wr).setCell (a := ⟨w.heap.size, 0, none⟩) (.inl rfl) _).setCell (a := ⟨w.heap.size, 1, none⟩) (.inl rfl) _)
          refine bodyPost_ret (v := .tuple #[.agg #[Value.slice sa len sc, .int .i64 (t.loops : Nat)], .int .i64 0]) (by simp [results, Tryd.results7, go_sem, e0, e1]) rfl ⟨_, _, rfl, ?_, ?_⟩
          · have ho := HF9.out.owns HOW.out fun k hk e => by
              have h1 := own_lb HOW.out k hk
              have h2 := (Array.getElem?_eq_some_iff.1 HR1.out).1
              omega
            obtain ⟨a2, c2, e, h⟩ := crs_own ho
            injection e with e1 e2 e3
            rw [← e1] at h; exact h
          · exact ((HF1.out.trans HNk.out).next HF9.out fun k hk => .inr (by rw [hk]; exact Nat.le_refl _))
end Go.Proofs.YtdelekkbkpldjaaDoor
