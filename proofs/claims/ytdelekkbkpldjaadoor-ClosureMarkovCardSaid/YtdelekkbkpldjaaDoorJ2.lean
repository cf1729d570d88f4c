/- Walks: the rings of a state. -/
import Derived.Test.YtdelekkbkpldjaaDoorJ1
namespace Go.Proofs.YtdelekkbkpldjaaDoor
open Go.RowKit

theorem un_next {s : Kn.Rt} {n a b : Nat} {c r : Nat → Nat} (hl : s.1.length = 2 * n + 1) (hr : ∀ a, a ≤ 2 * n → Kn.rt s.1 a = r a) (ha : a ≤ 2 * n) (hb : b ≤ 2 * n) (hn : r a ≠ r b) :
    (Kn.un s a b).2 = s.2 + 1 ∧ ∀ x, x ≤ 2 * n → Kn.rt (Kn.un s a b).1 x = if r x = r a then r b else r x := by
  unfold Kn.un
  rw [if_neg (by rw [hr a ha, hr b hb]; exact hn)]
  refine ⟨rfl, fun x hx => ?_⟩
  rw [rt_map _ _ (by omega), hr x hx, hr a ha, hr b hb]
theorem un_same {s : Kn.Rt} {n a b : Nat} {r : Nat → Nat} (hr : ∀ a, a ≤ 2 * n → Kn.rt s.1 a = r a) (ha : a ≤ 2 * n) (hb : b ≤ 2 * n) (hn : r a = r b) : Kn.un s a b = s := by
  unfold Kn.un
  rw [if_pos (by rw [hr a ha, hr b hb]; exact hn)]
theorem cl_made (w : World) : ClAt (w.alloc (.cells #[.int .i64 0, .int .i64 0, .int .i64 0, .int .i64 0, .int .i64 0, .int .i64 0, .int .i64 0, .int .i64 0, .int .i64 0, .int .i64 0, .int .i64 0, .int .i64 0, .int .i64 0, .int .i64 0, .int .i64 0, .int .i64 0, .int .i64 0, .int .i64 0, .int .i64 0, .int .i64 0, .int .i64 0, .int .i64 0, .int .i64 0, .int .i64 0, .int .i64 0] 115)) w.heap.size (fun _ => 0) := by
  refine ⟨_, heap_alloc_new w _, rfl, fun i hi => ?_⟩
  have : i = 0 ∨ i = 1 ∨ i = 2 ∨ i = 3 ∨ i = 4 ∨ i = 5 ∨ i = 6 ∨ i = 7 ∨ i = 8 ∨ i = 9 ∨ i = 10 ∨ i = 11 ∨ i = 12 ∨ i = 13 ∨ i = 14 ∨ i = 15 ∨ i = 16 ∨ i = 17 ∨ i = 18 ∨ i = 19 ∨ i = 20 ∨ i = 21 ∨ i = 22 ∨ i = 23 ∨ i = 24 := by omega
  rcases this with rfl | rfl | rfl | rfl | rfl | rfl | rfl | rfl | rfl | rfl | rfl | rfl | rfl | rfl | rfl | rfl | rfl | rfl | rfl | rfl | rfl | rfl | rfl | rfl | rfl <;> rfl
theorem cl_set {w : World} {cb : Nat} {c : Nat → Nat} (h : ClAt w cb c) (a v : Nat) : ClAt (w.setCell ⟨cb, a, none⟩ (.int .i64 (v : Nat))) cb (fun x => if x = a then v else c x) := by
  refine rowIs_congr (h.set _ _) fun j _ => ?_
  unfold numFn
  by_cases c : j = a
  · simp only [if_pos c]
  · simp only [if_neg c]
theorem seven_c {W : World} {B C t t' : Nat} {a b c d e x y : Value} (h : W.heap[B]? = some (.cells #[a, b, c, d, e] t (0, 0))) (h' : W.heap[C]? = some (.cells #[x, y] t' (0, 0))) :
    W.cell? ⟨B, 0, none⟩ = some a ∧ W.cell? ⟨B, 1, none⟩ = some b ∧ W.cell? ⟨B, 2, none⟩ = some c ∧ W.cell? ⟨B, 3, none⟩ = some d ∧ W.cell? ⟨B, 4, none⟩ = some e ∧ W.cell? ⟨C, 0, none⟩ = some x ∧ W.cell? ⟨C, 1, none⟩ = some y := by
  obtain ⟨h1, h2, h3, h4, h5⟩ := five_c h
  obtain ⟨h6, h7⟩ := two_c h'
  exact ⟨h1, h2, h3, h4, h5, h6, h7⟩
def sel (q : Kn.Qd) (s : Nat) : Nat := if s = 0 then q.1 else if s = 1 then q.2.1 else if s = 2 then q.2.2.1 else q.2.2.2
/- a crossing undone, arc by arc -/
def stp (s : Kn.Rt) (q : Kn.Qd) (bit : Nat) : Nat → Kn.Rt
  | 0 => s
  | 1 => Kn.un s (sel q (tieN (4 * bit))) (sel q (tieN (4 * bit + 1)))
  | _ => Kn.unA s q bit
theorem stp_succ (s : Kn.Rt) (q : Kn.Qd) {bit j : Nat} (hb : bit = 0 ∨ bit = 1) (hj : j = 0 ∨ j = 1) : stp s q bit (j + 1) = Kn.un (stp s q bit j) (sel q (tieN (4 * bit + 2 * j))) (sel q (tieN (4 * bit + 2 * j + 1))) := by
  rcases hb with rfl | rfl <;> rcases hj with rfl | rfl <;> rfl
theorem tie_lt (i : Nat) : tieN i < 4 := by
  unfold tieN
  match i with
  | 0 | 1 | 2 | 3 | 4 | 5 | 6 | 7 => decide
  | i + 8 => simp
theorem hix0 (a b c d : Int) (w : World) : (Instr.index 54 (.agg #[.int .i64 a, .int .i64 b, .int .i64 c, .int .i64 d]) (.int .i64 0)).run Tryd.prog w = .ok (.agg #[.int .i64 a, .int .i64 b]) w := by kernel_rfl
theorem hix1 (a b c d : Int) (w : World) : (Instr.index 54 (.agg #[.int .i64 a, .int .i64 b, .int .i64 c, .int .i64 d]) (.int .i64 1)).run Tryd.prog w = .ok (.agg #[.int .i64 c, .int .i64 d]) w := by kernel_rfl
theorem hix (bit j : Nat) (hj : j = 0 ∨ j = 1) (w : World) :
    (Instr.index 54 (.agg #[.int .i64 (tieN (4 * bit) : Nat), .int .i64 (tieN (4 * bit + 1) : Nat), .int .i64 (tieN (4 * bit + 2) : Nat), .int .i64 (tieN (4 * bit + 3) : Nat)]) (.int .i64 (j : Nat))).run Tryd.prog w = .ok (.agg #[.int .i64 (tieN (4 * bit + 2 * j) : Nat), .int .i64 (tieN (4 * bit + 2 * j + 1) : Nat)]) w := by
  rcases hj with rfl | rfl
  · exact hix0 _ _ _ _ w
  · exact hix1 _ _ _ _ w
theorem arc_sel {X : List Kn.Cr} (hX : Kn.Ok X) {k : Nat} (hk : k < X.length) {xa xb xc xd : Int} {xp : Bool} (h : Kn.cr X k = ⟨xa, xb, xc, xd, xp⟩) {u : Nat} (hu : u < 4) :
    arcI xa xb xc xd u = (sel (Kn.qd (Kn.cr X k)) u : Nat) ∧ sel (Kn.qd (Kn.cr X k)) u ≤ 2 * X.length := by
  have h1 := hX.rng (k, u) ⟨hk, hu⟩
  have e : Kn.at_ X (k, u) = arcI xa xb xc xd u := by
    unfold Kn.at_
    rw [h]; rfl
  rw [e] at h1
  have h2 : (Kn.nArcs X : Int) = 2 * X.length := by unfold Kn.nArcs; omega
  rw [h]
  have h3 : (sel (Kn.qd ⟨xa, xb, xc, xd, xp⟩) u : Int) = arcI xa xb xc xd u := by
    have h4 : sel (Kn.qd ⟨xa, xb, xc, xd, xp⟩) u = (arcI xa xb xc xd u).toNat := by
      match u, hu with
      | 0, _ => rfl
      | 1, _ => rfl
      | 2, _ => rfl
      | 3, _ => rfl
    rw [h4]; omega
  exact ⟨h3.symm, by omega⟩
theorem RgI.join {w wr : World} {cb n ua va : Nat} {s : Kn.Rt} {c r : Nat → Nat} (h : RgI w wr cb n s) (hcb : cb = w.heap.size) (hz : ClAt wr cb c) (hf : Forest c r) (hr : ∀ a, a ≤ 2 * n → Kn.rt s.1 a = r a) (h12 : n ≤ 12) (ha : ua ≤ 2 * n) (hb : va ≤ 2 * n) (hn : r ua ≠ r va) :
    RgI w (wr.setCell ⟨cb, r ua, none⟩ (.int .i64 (r va : Nat))) cb n (Kn.un s ua va) := by
  obtain ⟨h1, h2⟩ := un_next (c := c) h.len hr ha hb hn
  exact ⟨h.new.setCell (.inr (by rw [hcb]; exact Nat.le_refl _)) _, ⟨_, _, cl_set hz (r ua) (r va), hf.join (by omega) (by omega) hn, h2⟩, by rw [un_len]; exact h.len⟩
theorem drop_qd {X : List Kn.Cr} {k : Nat} (h : k < X.length) : (X.map Kn.qd).drop k = Kn.qd (Kn.cr X k) :: (X.map Kn.qd).drop (k + 1) := by
  rw [List.drop_eq_getElem_cons (by simpa using h)]
  congr 1
  unfold Kn.cr
  rw [List.getElem_map, List.getD_eq_getElem?_getD, List.getElem?_eq_getElem h]; rfl
set_option maxRecDepth 100000 in
set_option maxHeartbeats 4000000 in
theorem rings_any (b st n : Nat) (X : List Kn.Cr) (L : Nat) (w : World) (h : ShAt w b X (L : Int)) (hX : Kn.Ok X) (hn : n = X.length) (h12 : n ≤ 12) (hst : st < 4096) (hL : L ≤ 16) (ht : EnvT w) :
    Calls Tryd.prog 47 #[.pointer (some ⟨b, 0, none⟩), .int .i64 st] w fun e w' => e = .returned (.int .i64 ((2 * n + L - (Kn.stateF (X.map Kn.qd) (Kn.start n) st).2 : Nat) : Int)) ∧ New w w' := by
  have HS := Lib.hid h
  have HX := Lib.hid hX
  have HN := Lib.hid hn
  have HT := Lib.hid ht
  obtain ⟨cb, HCB⟩ : ∃ cb, Hid (cb = w.heap.size) := ⟨_, Lib.hid rfl⟩
  obtain ⟨a1, c1, h0w, hLw, hcr⟩ := h.crs
  rw [← hn] at h0w
  have HCR := Lib.hid hcr
  have H0W := Lib.hid h0w
  have HLW := Lib.hid hLw
  clear h hX hn ht hcr h0w hLw
  go_enter Tryd.func47, Tryd.ntmps47
  go_wp2
  have H0 : Hid (ClAt (w.alloc (.cells #[.int .i64 0, .int .i64 0, .int .i64 0, .int .i64 0, .int .i64 0, .int .i64 0, .int .i64 0, .int .i64 0, .int .i64 0, .int .i64 0, .int .i64 0, .int .i64 0, .int .i64 0, .int .i64 0, .int .i64 0, .int .i64 0, .int .i64 0, .int .i64 0, .int .i64 0, .int .i64 0, .int .i64 0, .int .i64 0, .int .i64 0, .int .i64 0, .int .i64 0] 115)) cb (fun _ => 0)) := Lib.hid (by rw [HCB.out]; exact cl_made w)
  rw [← HCB.out]
  go_loopw [15] (fun i wr => ∃ k : Nat, k ≤ 25 ∧ i = .int .i64 k ∧ Hid (New w wr) ∧ Hid (∃ c, ClAt wr cb c ∧ ∀ a, a < k → c a = a)) (fun i _ => 25 - (intOf i).toNat)
  case atStart => exact ⟨0, by omega, rfl, Lib.hid ((Fr.refl _ _).alloc _), Lib.hid ⟨_, H0.out, fun a ha => by omega⟩⟩
  case round =>
    obtain ⟨k, hk, rfl, HF, HC⟩ := hrel
    by_cases hlt : k < 25
    · obtain ⟨c, hc⟩ : ∃ c, Hid (ClAt wr cb c ∧ ∀ a, a < k → c a = a) := by obtain ⟨c, h⟩ := HC.out; exact ⟨c, Lib.hid h⟩
      have hcell := hc.out.1.cell (i := k) hlt
      have hfz := hc.out.1.frozen k
      simp only [numFn] at hcell
      have i1 : (0 : Int) ≤ (k : Int) := by omega
      have i2 : (k : Int) < 25 := by omega
      go_wp2
      go_roundw
      case rel => exact ⟨k + 1, by omega, by go_num, Lib.hid (HF.out.setCell (.inr (by rw [HCB.out]; exact Nat.le_refl _)) _), Lib.hid ⟨_, cl_set hc.out.1 k k, fun a ha => by
        by_cases e : a = k
        · simp only [if_pos e]; exact e.symm
        · simp only [if_neg e]; exact hc.out.2 a (by omega)⟩⟩
      case measure => simp [intOf]; omega
    · obtain rfl : 25 = k := by omega
      have HI0 : Hid (RgI w wr cb n (Kn.start n)) := Lib.hid (by
        obtain ⟨c, h1, h2⟩ := HC.out
        exact ⟨HF.out, ⟨fun a => a, fun a => a, rowIs_congr h1 fun j hj => by unfold numFn; rw [h2 j hj], Forest.start, fun a ha => Rt.start n ha⟩, by simp [Kn.start]⟩)
      have h0 := HF.out.cell H0W.out (fun x => x)
      clear HC H0
      obtain ⟨m, HM⟩ : ∃ m, Hid (m = Kn.nArcs X) := ⟨_, Lib.hid rfl⟩
      have hm : m = 2 * n := by rw [HM.out, HN.out]; rfl
      have HM2 := Lib.hid hm
      have hm24 : m ≤ 24 := by omega
      clear hm
      go_wp2_with (go_at_call 62; refine (arcsN' b m X L _ (New.shAt HF.out HS.out) (by have := HN.out; omega) HM.out).mono ?_; rintro e w4 ⟨rfl, hE⟩; obtain rfl := hE)
      go_loopw [8, 31] (fun nv i wr => ∃ (k : Nat) (s : Kn.Rt), k ≤ n ∧ i = .int .i64 k ∧ nv = .int .i64 ((m : Int) - (s.2 : Nat)) ∧ s.2 ≤ 2 * k ∧ Hid (RgI w wr cb n s) ∧ Hid (Kn.stateF ((X.map Kn.qd).drop k) s (st / 2 ^ k) = Kn.stateF (X.map Kn.qd) (Kn.start n) st)) (fun _ i _ => n - (intOf i).toNat)
      case atStart => exact ⟨0, Kn.start n, by omega, rfl, by simp [Kn.start], by simp [Kn.start], HI0, Lib.hid (by simp)⟩
      case round =>
        obtain ⟨k, s, hk, rfl, rfl, hs2, HI, HE⟩ := hrel
        by_cases hkn : k < n
        · obtain ⟨bit, HBIT⟩ : ∃ z, Hid (z = st / 2 ^ k % 2) := ⟨_, Lib.hid rfl⟩
          have hb2 : bit = 0 ∨ bit = 1 := by have := HBIT.out; omega
          have hq : st / 2 ^ k < 4096 := Nat.lt_of_le_of_lt (Nat.div_le_self _ _) hst
          have hkX : k < X.length := by have := HN.out; omega
          obtain ⟨bx, ox, rfl, hx⟩ := HCR.out.at hkX
          obtain ⟨xa, xb, xc, xd, xp, HXC⟩ := Kn.cr_parts' X k
          rw [HXC.out] at hx
          have hx' := HI.out.new.crAt hx fun x => x
          obtain ⟨x1, x2, x3, x4, x5⟩ := hx'
          have i1 : (0 : Int) ≤ (k : Int) := by omega
          have i2 : (k : Int) < (n : Int) := by omega
          clear hx hq
          have hs2' : s.2 ≤ 24 := by omega
          obtain ⟨s2, HS2⟩ : ∃ z, Hid (z = s.2) := ⟨_, Lib.hid rfl⟩
          rw [← HS2.out] at hs2 hs2' ⊢
          go_upto_region 12 with fail
          obtain ⟨wb, HWB⟩ : ∃ wb, Hid (wb = wr.alloc (.cells #[.int .i64 xa, .int .i64 xb, .int .i64 xc, .int .i64 xd, .bool xp] 56)) := ⟨_, Lib.hid rfl⟩
          obtain ⟨Bx, HBX⟩ : ∃ B, Hid (B = wr.heap.size) := ⟨_, Lib.hid rfl⟩
          have HIb : Hid (RgI w wb cb n s) := Lib.hid (by rw [HWB.out]; exact HI.out.new' ((Fr.refl _ _).alloc _))
          have HBb : Hid (wb.heap[Bx]? = some (.cells #[.int .i64 xa, .int .i64 xb, .int .i64 xc, .int .i64 xd, .bool xp] 56 (0, 0))) := Lib.hid (by rw [HWB.out, HBX.out]; exact heap_alloc_new wr _)
          rw [← HWB.out, ← HBX.out]
          have hT := HIb.out.new.envT HT.out
          clear x1 x2 x3 x4 x5 i1 i2
          have han : bits BinOp.and IntKind.i64 ((st : Int) / 2 ^ k) 1 = (bit : Int) := by
            have := of_decide_eq_true (List.all_eq_true.1 and_all (st / 2 ^ k) (List.mem_range.2 (Nat.lt_of_le_of_lt (Nat.div_le_self _ _) hst)))
            rw [← HBIT.out] at this
            simpa using this
          go_cut [41, 42] (fun s41 s42 wx => Hid (wx = wb ∧ s42 = .int .i64 0 ∧ s41 = .agg #[.int .i64 (tieN (4 * bit) : Nat), .int .i64 (tieN (4 * bit + 1) : Nat), .int .i64 (tieN (4 * bit + 2) : Nat), .int .i64 (tieN (4 * bit + 3) : Nat)]))
          case first =>
            rcases hb2 with rfl | rfl
            · have han0 : bits BinOp.and IntKind.i64 ((st : Int) / 2 ^ k) 1 = 0 := han
              clear han
              have t0 := hT 0 (by omega)
              have t1 := hT 1 (by omega)
              have t2 := hT 2 (by omega)
              have t3 := hT 3 (by omega)
              clear hT
              go_wp2_with fail
              go_meet
              exact Lib.hid ⟨rfl, rfl, rfl⟩
            · have han0 : bits BinOp.and IntKind.i64 ((st : Int) / 2 ^ k) 1 = 1 := han
              clear han
              have t0 := hT 4 (by omega)
              have t1 := hT 5 (by omega)
              have t2 := hT 6 (by omega)
              have t3 := hT 7 (by omega)
              clear hT
              go_wp2_with fail
              go_meet
              exact Lib.hid ⟨rfl, rfl, rfl⟩
          case rest =>
          obtain ⟨rfl, rfl, rfl⟩ := Hid.out hcut
          clear hcut hT han HWB HBX
          go_wp2_with fail
          go_loopw [8, 42] (fun nv i wr => ∃ (j : Nat) (sj : Kn.Rt), j ≤ 2 ∧ i = .int .i64 j ∧ nv = .int .i64 ((m : Int) - (sj.2 : Nat)) ∧ sj.2 ≤ s2 + j ∧ Hid (sj = stp s (Kn.qd (Kn.cr X k)) bit j) ∧ Hid (RgI w wr cb n sj) ∧ Hid (wr.heap[Bx]? = some (.cells #[.int .i64 xa, .int .i64 xb, .int .i64 xc, .int .i64 xd, .bool xp] 56 (0, 0)))) (fun _ i _ => 2 - (intOf i).toNat)
          case atStart => exact ⟨0, s, by omega, rfl, by rw [HS2.out], by rw [HS2.out]; exact Nat.le_refl _, Lib.hid rfl, HIb, HBb⟩
          case round =>
            obtain ⟨j, sj, hj, rfl, rfl, hsj, HSJ, HIj, HBj⟩ := hrel
            by_cases hj2 : j < 2
            · have hj01 : j = 0 ∨ j = 1 := by omega
              have hxx := hix bit j hj01
              obtain ⟨u, HU⟩ : ∃ z, Hid (z = tieN (4 * bit + 2 * j)) := ⟨_, Lib.hid rfl⟩
              obtain ⟨v, HV⟩ : ∃ z, Hid (z = tieN (4 * bit + 2 * j + 1)) := ⟨_, Lib.hid rfl⟩
              rw [← HU.out, ← HV.out] at hxx
              have hu4 : u < 4 := by rw [HU.out]; exact tie_lt _
              have hv4 : v < 4 := by rw [HV.out]; exact tie_lt _
              obtain ⟨ua, HUA⟩ : ∃ z, Hid (z = sel (Kn.qd (Kn.cr X k)) u) := ⟨_, Lib.hid rfl⟩
              obtain ⟨va, HVA⟩ : ∃ z, Hid (z = sel (Kn.qd (Kn.cr X k)) v) := ⟨_, Lib.hid rfl⟩
              have hau := arc_sel HX.out hkX HXC.out hu4
              have hav := arc_sel HX.out hkX HXC.out hv4
              rw [← HUA.out, ← HN.out] at hau
              rw [← HVA.out, ← HN.out] at hav
              have HU1 := Lib.hid hau.1
              have HV1 := Lib.hid hav.1
              have hua : ua ≤ 2 * n := hau.2
              have hva : va ≤ 2 * n := hav.2
              clear hau hav
              obtain ⟨cf, rf, hz0, hfo, hrf⟩ := HIj.out.cls
              have HFO := Lib.hid hfo
              have HRF := Lib.hid hrf
              have HSN : Hid (stp s (Kn.qd (Kn.cr X k)) bit (j + 1) = Kn.un sj ua va) := Lib.hid (by rw [stp_succ s _ hb2 hj01, ← HSJ.out, ← HU.out, ← HV.out, ← HUA.out, ← HVA.out])
              obtain ⟨sn, HSNN⟩ : ∃ z, Hid (z = sj.2) := ⟨_, Lib.hid rfl⟩
              rw [← HSNN.out] at hsj ⊢
              obtain ⟨ra, HRA⟩ : ∃ z, Hid (rf ua = z) := ⟨_, Lib.hid rfl⟩
              obtain ⟨rb, HRB⟩ : ∃ z, Hid (rf va = z) := ⟨_, Lib.hid rfl⟩
              have HZ00 := Lib.hid hz0
              clear hfo hrf hz0
              go_upto_region 15 with fail
              obtain ⟨Bt, HBT⟩ : ∃ B, Hid (B = wr.heap.size) := ⟨_, Lib.hid rfl⟩
              obtain ⟨r0, HR0⟩ : ∃ z, Hid (z = (wr.alloc (.cells #[.int .i64 (u : Nat), .int .i64 (v : Nat)] 53)).drew) := ⟨_, Lib.hid rfl⟩
              have HNy : New wr r0 := by rw [HR0.out]; exact ((Fr.refl _ _).alloc _).drew
              have HI0 : Hid (RgI w r0 cb n sj) := Lib.hid (HIj.out.new' HNy)
              have HB0 : Hid (r0.heap[Bx]? = some (.cells #[.int .i64 xa, .int .i64 xb, .int .i64 xc, .int .i64 xd, .bool xp] 56 (0, 0))) := Lib.hid (HNy.blk HBj.out fun x => x)
              have HC0 : Hid (r0.heap[Bt]? = some (.cells #[.int .i64 (u : Nat), .int .i64 (v : Nat)] 53 (0, 0))) := Lib.hid (by rw [HR0.out, HBT.out]; exact heap_alloc_new wr _)
              have HZ0 := Lib.hid (HNy.row HZ00.out fun x => x)
              rw [← HBT.out]
              have hS0 := seven_c HB0.out HC0.out
              rw [HR0.out] at hS0
              refine wp_region_held_drew (S := fun wz => wz.cell? ⟨Bx, 0, none⟩ = some (.int .i64 xa) ∧ wz.cell? ⟨Bx, 1, none⟩ = some (.int .i64 xb) ∧ wz.cell? ⟨Bx, 2, none⟩ = some (.int .i64 xc) ∧ wz.cell? ⟨Bx, 3, none⟩ = some (.int .i64 xd) ∧ wz.cell? ⟨Bx, 4, none⟩ = some (.bool xp) ∧ wz.cell? ⟨Bt, 0, none⟩ = some (.int .i64 (u : Nat)) ∧ wz.cell? ⟨Bt, 1, none⟩ = some (.int .i64 (v : Nat))) (by kernel_rfl) hS0 (fun hHeld => ?_)
              rw [← HR0.out] at hHeld ⊢
              clear hS0 HNy
              refine' tkO (i := 0) ?_
              (try simp only [Act.put, lq1, lq2, lq3, lq4, lq5, lq6])
              refine' tkO (i := 1) ?_
              (try simp only [Act.put, lq1, lq2, lq3, lq4, lq5, lq6])
              refine' tkO (i := 2) ?_
              (try simp only [Act.put, lq1, lq2, lq3, lq4, lq5, lq6])
              refine' tkO (i := 3) ?_
              (try simp only [Act.put, lq1, lq2, lq3, lq4, lq5, lq6])
              refine' tkO (i := 6) ?_
              (try simp only [Act.put, lq1, lq2, lq3, lq4, lq5, lq6])
              refine' tkO (i := 7) ?_
              (try simp only [Act.put, lq1, lq2, lq3, lq4, lq5, lq6])
              refine' tkO (i := 8) ?_
              (try simp only [Act.put, lq1, lq2, lq3, lq4, lq5, lq6])
              refine' tkO (i := 9) ?_
              (try simp only [Act.put, lq1, lq2, lq3, lq4, lq5, lq6])
              refine rdO (i := 4) (fun K hK => ?_)
              (try simp only [lq1, lq2, lq3])
              go_simp
              refine (arc_any xa xb xc xd xp u _ (by assumption)).mono ?_
              rintro e r1 ⟨rfl, hF⟩
              rw [HU1.out]
              have HI1 : Hid (RgI w r1 cb n sj) := Lib.hid (HI0.out.new' hF)
              have HB1 := Lib.hid (hF.blk HB0.out fun x => x)
              have HC1 := Lib.hid (hF.blk HC0.out fun x => x)
              have HZ1 := Lib.hid (hF.row HZ0.out fun x => x)
              clear hF
              go_wp2_with fail
              refine hK.out _ _ (seven_c HB1.out HC1.out) (fun hHeld => ?_)
              clear hK K
              (try simp only [Act.put, lq1, lq2, lq3, lq4, lq5, lq6])
              refine rdO (i := 5) (fun K hK => ?_)
              (try simp only [lq1, lq2, lq3])
              go_simp
              refine (root_any cb ua cf rf _ HZ1.out HFO.out (by omega)).mono ?_
              rintro e r2 ⟨rfl, hF⟩
              have HI2 : Hid (RgI w r2 cb n sj) := Lib.hid (HI1.out.new' hF)
              have HB2 := Lib.hid (hF.blk HB1.out fun x => x)
              have HC2 := Lib.hid (hF.blk HC1.out fun x => x)
              have HZ2 := Lib.hid (hF.row HZ1.out fun x => x)
              clear hF
              go_wp2_with fail
              refine hK.out _ _ (seven_c HB2.out HC2.out) (fun hHeld => ?_)
              clear hK K
              (try simp only [Act.put, lq1, lq2, lq3, lq4, lq5, lq6])
              refine rdO (i := 10) (fun K hK => ?_)
              (try simp only [lq1, lq2, lq3])
              go_simp
              refine (arc_any xa xb xc xd xp v _ (by assumption)).mono ?_
              rintro e r3 ⟨rfl, hF⟩
              rw [HV1.out]
              have HI3 : Hid (RgI w r3 cb n sj) := Lib.hid (HI2.out.new' hF)
              have HB3 := Lib.hid (hF.blk HB2.out fun x => x)
              have HC3 := Lib.hid (hF.blk HC2.out fun x => x)
              have HZ3 := Lib.hid (hF.row HZ2.out fun x => x)
              clear hF
              go_wp2_with fail
              refine hK.out _ _ (seven_c HB3.out HC3.out) (fun hHeld => ?_)
              clear hK K
              (try simp only [Act.put, lq1, lq2, lq3, lq4, lq5, lq6])
              refine rdO (i := 11) (fun K hK => ?_)
              (try simp only [lq1, lq2, lq3])
              go_simp
              refine (root_any cb va cf rf _ HZ3.out HFO.out (by omega)).mono ?_
              rintro e r4 ⟨rfl, hF⟩
              have HI4 : Hid (RgI w r4 cb n sj) := Lib.hid (HI3.out.new' hF)
              have HB4 := Lib.hid (hF.blk HB3.out fun x => x)
              have HC4 := Lib.hid (hF.blk HC3.out fun x => x)
              have HZ4 := Lib.hid (hF.row HZ3.out fun x => x)
              clear hF
              go_wp2_with fail
              refine hK.out _ _ (seven_c HB4.out HC4.out) (fun hHeld => ?_)
              clear hK K
              (try simp only [Act.put, lq1, lq2, lq3, lq4, lq5, lq6])
              refine' tkO (i := 12) ?_
              (try simp only [Act.put, lq1, lq2, lq3, lq4, lq5, lq6])
              refine' tkO (i := 13) ?_
              (try simp only [Act.put, lq1, lq2, lq3, lq4, lq5, lq6])
              refine wpAnyH_done (by kernel_rfl) ?_ _
              rw [HRA.out, HRB.out]
              have hra : rf ua < 25 := (HFO.out.choose_spec ua (by omega)).2.1
              rw [HRA.out] at hra
              have hcell := HZ4.out.cell (i := ra) hra
              have hfz := HZ4.out.frozen ra
              have j1 : (0 : Int) ≤ (ra : Int) := by omega
              have j2 : (ra : Int) < 25 := by omega
              by_cases e : ra = rb
              · have HEQ : Hid (Kn.un sj ua va = sj) := Lib.hid (un_same HRF.out hua hva (by rw [HRA.out, HRB.out]; exact e))
                subst e
                clear hcell hfz
                go_wp2
                go_roundw
                case rel => exact ⟨j + 1, sj, by omega, by go_num, by rw [HSNN.out], by have := HSNN.out; omega, Lib.hid (by rw [HSN.out, HEQ.out]), HI4, HB4⟩
                case measure => simp [intOf]; omega
              · have e' : ¬ (ra : Int) = (rb : Int) := by omega
                have HJ : Hid (RgI w (r4.setCell ⟨cb, ra, none⟩ (.int .i64 (rb : Nat))) cb n (Kn.un sj ua va)) := Lib.hid (by
                  have := HI4.out.join HCB.out HZ4.out HFO.out HRF.out h12 hua hva (by rw [HRA.out, HRB.out]; exact e)
                  rwa [HRA.out, HRB.out] at this)
                have HNE : Hid ((Kn.un sj ua va).2 = sn + 1) := Lib.hid (by rw [HSNN.out]; exact (un_next (c := cf) HIj.out.len HRF.out hua hva (by rw [HRA.out, HRB.out]; exact e)).1)
                have HBX : Hid (Bx ≠ cb) := Lib.hid fun h => blk_ne HB4.out HZ4.out (by decide) h
                go_wp2
                go_roundw
                case rel => exact ⟨j + 1, _, by omega, by go_num, by rw [HNE.out]; go_num, by rw [HNE.out]; omega, Lib.hid HSN.out.symm, HJ, Lib.hid (((Fr.refl (fun k => k = cb) r4).setCell (.inl rfl) _).blk HB4.out HBX.out)⟩
                case measure => simp [intOf]; omega
            · obtain rfl : 2 = j := by omega
              go_wp2
              go_roundw
              case rel =>
                refine ⟨k + 1, sj, by omega, by go_num, rfl, by omega, HIj, Lib.hid ?_⟩
                have := HE.out
                rw [drop_qd hkX, Kn.stateF, ← HBIT.out] at this
                rw [HSJ.out, Nat.pow_succ, ← Nat.div_div_eq_div_mul]
                exact this
              case measure => simp [intOf]; omega
        · obtain rfl : n = k := by omega
          have hL1 := HI.out.new.cell HLW.out fun x => x
          have hsl : s.2 ≤ 2 * n := hs2
          obtain ⟨s2, HS2⟩ : ∃ z, Hid (z = s.2) := ⟨_, Lib.hid rfl⟩
          rw [← HS2.out] at hsl ⊢
          have he : Kn.stateF (X.map Kn.qd) (Kn.start n) st = s := by
            rw [← HE.out, List.drop_of_length_le (by simp; have := HN.out; omega)]; rfl
          have HEE := Lib.hid he
          clear he
          go_wp2
          go_ret
          exact ⟨ret_int (by rw [HEE.out, ← HS2.out]; have := HM2.out; omega), HI.out.new⟩
end Go.Proofs.YtdelekkbkpldjaaDoor
