/- Walks: Passes. -/
import Derived.Test.YtcfpdeeipbekfaaJX
import Derived.Test.YtcfpdeeipbekfaaMAlld
namespace Go.Proofs.Ytcfpdeeipbekfaa
open Go.RowKit

/- the classes of arcs in memory -/
structure PaC (w wr : World) (cb m : Nat) (f : Nat → Nat) : Prop where
  new : New w wr
  row : wr.rowIs cb 3 m (numFn f)
  low : w.heap.size ≤ cb
section
variable {w wr w' : World} {cb m : Nat} {f g : Nat → Nat}
theorem PaC.nw (h : PaC w wr cb m f) (hf : New wr w') : PaC w w' cb m f := ⟨h.new.trans hf, hf.row h.row fun x => x, h.low⟩
theorem PaC.set (h : PaC w wr cb m f) (a x : Nat) : PaC w (wr.setCell ⟨cb, a, none⟩ (.int .i64 (x : Nat))) cb m (fun y => if y = a then x else f y) := by
  have hF : Fr (fun k => k = cb) wr (wr.setCell ⟨cb, a, none⟩ (.int .i64 (x : Nat))) := (Fr.refl (fun k => k = cb) wr).setCell (a := ⟨cb, a, none⟩) (.inl rfl) _
  exact ⟨h.new.next hF fun i hi => .inr (by rw [hi]; exact h.low), rowIs_setN h.row a x, h.low⟩
theorem PaC.congr (h : PaC w wr cb m f) (hg : ∀ j, j < m → g j = f j) : PaC w wr cb m g := ⟨h.new, rowIs_congr h.row fun j hj => by unfold numFn; rw [hg j hj], h.low⟩
end
/- the numbers of arcs' overpasses -/
def ovF (X : List Kn.Cr) (a j : Nat) : Nat := if 1 ≤ j ∧ j < a then Kn.overP X j else 0
structure PaO (w wr : World) (cb ob m : Nat) (X : List Kn.Cr) (a : Nat) : Prop where
  c : PaC w wr cb m (Kn.clsP X X.length)
  o : wr.rowIs ob 3 m (numFn (ovF X a))
  low : w.heap.size ≤ ob
  ne : cb ≠ ob
theorem PaO.step {w wr : World} {cb ob m : Nat} {X : List Kn.Cr} {a : Nat} (h : PaO w wr cb ob m X a) (h1 : 1 ≤ a) {x : Nat} (hx : x = Kn.overP X a) : PaO w (wr.setCell ⟨ob, a, none⟩ (.int .i64 (x : Nat))) cb ob m X (a + 1) := by
  have hF : Fr (fun k => k = ob) wr (wr.setCell ⟨ob, a, none⟩ (.int .i64 (x : Nat))) := (Fr.refl (fun k => k = ob) wr).setCell (a := ⟨ob, a, none⟩) (.inl rfl) _
  refine ⟨⟨h.c.new.next hF fun i hi => .inr (by rw [hi]; exact h.low), hF.row h.c.row h.ne, h.c.low⟩, rowIs_congr (rowIs_setN h.o a x) fun j hj => ?_, h.low, h.ne⟩
  unfold numFn ovF
  simp only
  by_cases e : j = a
  · rw [if_pos e, if_pos (by omega), hx, e]
  · rw [if_neg e]
    by_cases e2 : 1 ≤ j ∧ j < a
    · rw [if_pos e2, if_pos (by omega)]
    · rw [if_neg e2, if_neg (by omega)]
def GavePa (X : List Kn.Cr) (m many : Nat) (w : World) (e : Ending) (w' : World) : Prop := ∃ ob, e = .returned (.tuple #[.slice (some ⟨ob, 0, none⟩) m m, .int .i64 (many : Nat)]) ∧ w'.rowIs ob 3 m (numFn (ovF X m)) ∧ New w w' ∧ w.heap.size ≤ ob
set_option maxRecDepth 100000 in
set_option maxHeartbeats 4000000 in
theorem passes_any (b n : Nat) (X : List Kn.Cr) (L : Int) (w : World) (h : ShAt w b X L) (hX : Kn.Ok X) (hn : n = X.length) (h12 : n ≤ 12) :
    Calls Try.prog 50 #[.pointer (some ⟨b, 0, none⟩)] w (GavePa X (2 * n + 1) (Kn.manyP X) w) := by
  obtain ⟨a0, c0, hs0, hs1, hcr⟩ := h.crs
  rw [← hn] at hs0
  obtain ⟨m, hm⟩ : ∃ m, m = Kn.nArcs X := ⟨_, rfl⟩
  have hm24 : m ≤ 24 := by rw [hm]; unfold Kn.nArcs; omega
  have hm2 : m = 2 * n := by rw [hm]; unfold Kn.nArcs; omega
  have HCR := Lib.hid hcr
  have HS0 := Lib.hid hs0
  have HS := Lib.hid h
  have HX := Lib.hid hX
  have HN := Lib.hid hn
  have HM := Lib.hid hm
  have HM2 := Lib.hid hm2
  have HL : Hid (X.length ≤ 16) := Lib.hid (by omega)
  have hmk : ∀ w, (Instr.makeSlice 22 (.int .i64 ((m : Int) + 1)) (.int .i64 ((m : Int) + 1))).run Try.prog w = .ok (.slice (some ⟨w.heap.size, 0, none⟩) (m + 1) (m + 1)) (w.alloc (.cells (madeCells #[.int .i64 0] (m + 1)) 3)) := fun w => by
    have := run_make_row' (P := Try.prog) 22 3 (.int .i64 0) 8 Try.underlying22 Try.info3 rfl .i64 .i64 (m + 1) (by omega) (by omega) w
    rwa [show (((m + 1 : Nat)) : Int) = (m : Int) + 1 by omega] at this
  rw [show 2 * n + 1 = m + 1 by omega]
  clear hcr hs0 hs1 h hX hn hm hm2
  go_enter Try.func50, Try.ntmps50
  go_wp2_with (go_at_call 59; refine (arcsN' b m X L _ HS.out HL.out HM.out).mono ?_; rintro e w' ⟨rfl, rfl⟩)
  obtain ⟨mm, hmm1⟩ : ∃ mm, mm = m + 1 := ⟨_, rfl⟩
  have hmm2 : (m : Int) + 1 = (mm : Int) := by omega
  have hmm25 : mm ≤ 25 := by omega
  have hmk2 : ∀ w, (Instr.makeSlice 22 (.int .i64 (mm : Int)) (.int .i64 (mm : Int))).run Try.prog w = .ok (.slice (some ⟨w.heap.size, 0, none⟩) mm mm) (w.alloc (.cells (madeCells #[.int .i64 0] mm) 3)) := fun W => by
    have := hmk W
    rwa [hmm2, ← hmm1] at this
  rw [hmm2, ← hmm1]
  obtain ⟨w1, HW1⟩ : ∃ w1, Hid (w1 = w.alloc (.cells (madeCells #[.int .i64 0] mm) 3)) := ⟨_, Lib.hid rfl⟩
  obtain ⟨cb, HCB⟩ : ∃ B, Hid (B = w.heap.size) := ⟨_, Lib.hid rfl⟩
  have HA0 : Hid (PaC w w1 cb mm (fun x => if x < 0 then x else 0)) := Lib.hid (by
    rw [HW1.out, HCB.out]
    refine ⟨(Fr.refl _ _).alloc _, rowIs_congr (World.rowIs_made w (.int .i64 0) mm 3) fun j _ => ?_, Nat.le_refl _⟩
    unfold numFn; simp)
  rw [← HW1.out, ← HCB.out]
  have HMM := Lib.hid hmm1
  clear HW1 HCB hmm1 hmm2 hmk
  go_loopw [5, 20] (fun _ i wr => ∃ k : Nat, k ≤ mm ∧ i = .int .i64 k ∧ Hid (PaC w wr cb mm (fun x => if x < k then x else 0))) (fun _ i _ => mm - (intOf i).toNat)
  case atStart => exact ⟨0, by omega, rfl, HA0⟩
  case round =>
    obtain ⟨k, hk, rfl, HA⟩ := hrel
    by_cases hkm : k < mm
    · have hr := HA.out.row.cell (i := k) hkm
      have hf := HA.out.row.frozen k
      simp only [numFn] at hr
      have i1 : (0 : Int) ≤ (k : Int) := by omega
      have i2 : (k : Int) < (mm : Int) := by omega
      go_wp2
      go_roundw
      case rel =>
        refine ⟨k + 1, by omega, by go_num, Lib.hid ((HA.out.set k k).congr fun j _ => ?_)⟩
        by_cases e : j = k
        · rw [if_pos e, if_pos (by omega), e]
        · rw [if_neg e]
          by_cases e2 : j < k
          · rw [if_pos e2, if_pos (by omega)]
          · rw [if_neg e2, if_neg (by omega)]
      case measure => simp [intOf]; omega
    · obtain rfl : mm = k := by omega
      have HC0 : Hid (PaC w wr cb mm (Kn.clsP X 0)) := Lib.hid (HA.out.congr fun j hj => by rw [if_pos hj]; rfl)
      have s0 := HC0.out.new.cell HS0.out fun x => x
      clear HA HA0
      go_wp2_with fail
      clear s0
      clear w1
      go_loopw [7, 8, 9, 10, 34] (fun _ _ _ _ i wr => ∃ k : Nat, k ≤ n ∧ i = .int .i64 k ∧ Hid (PaC w wr cb mm (Kn.clsP X k))) (fun _ _ _ _ i _ => n - (intOf i).toNat)
      case atStart => exact ⟨0, by omega, rfl, HC0⟩
      case round =>
        obtain ⟨k, hk, rfl, HJ⟩ := hrel
        by_cases hkn : k < n
        · have hkX : k < X.length := by have := HN.out; omega
          obtain ⟨bx, ox, rfl, hx⟩ := (New.crs HJ.out.new HCR.out).at hkX
          obtain ⟨xa, xb, xc, xd, xp, HXC⟩ := Kn.cr_parts' X k
          have hr1 := HX.out.rng (k, 1) ⟨hkX, by show 1 < 4; omega⟩
          have hr3 := HX.out.rng (k, 3) ⟨hkX, by show 3 < 4; omega⟩
          have at1 : Kn.at_ X (k, 1) = xb := by unfold Kn.at_; simp only; rw [HXC.out]; rfl
          have at3 : Kn.at_ X (k, 3) = xd := by unfold Kn.at_; simp only; rw [HXC.out]; rfl
          rw [at1, ← HM.out] at hr1
          rw [at3, ← HM.out] at hr3
          obtain ⟨u, hu⟩ : ∃ u : Nat, xb = u := ⟨xb.toNat, by omega⟩
          obtain ⟨v, hv⟩ : ∃ u : Nat, xd = u := ⟨xd.toNat, by omega⟩
          subst hu hv
          have HU : Hid (Kn.arcN X (k, 1) = u) := Lib.hid (by unfold Kn.arcN; rw [at1]; rfl)
          have HV : Hid (Kn.arcN X (k, 3) = v) := Lib.hid (by unfold Kn.arcN; rw [at3]; rfl)
          have hum : u < mm := by have := HMM.out; omega
          have hvm : v < mm := by have := HMM.out; omega
          rw [HXC.out] at hx
          obtain ⟨x1, x2, x3, x4, x5⟩ := hx
          have i1 : (0 : Int) ≤ (k : Int) := by omega
          have i2 : (k : Int) < (n : Int) := by omega
          clear at1 at3 hr1 hr3
          obtain ⟨F, HFF⟩ : ∃ F, Hid (F = Kn.clsP X k) := ⟨_, Lib.hid rfl⟩
          rw [← HFF.out] at HJ
          obtain ⟨fu, HFU⟩ : ∃ q, Hid (F u = q) := ⟨_, Lib.hid rfl⟩
          obtain ⟨fv, HFV⟩ : ∃ q, Hid (F v = q) := ⟨_, Lib.hid rfl⟩
          go_upto_region 10 with fail
          clear x1 x2 x3 x4 x5
          obtain ⟨wz, HWZ⟩ : ∃ z, Hid (z = wr.alloc (.cells #[.int .i64 xa, .int .i64 (u : Nat), .int .i64 xc, .int .i64 (v : Nat), .bool xp] 81)) := ⟨_, Lib.hid rfl⟩
          obtain ⟨B9, HB9⟩ : ∃ z, Hid (z = wr.heap.size) := ⟨_, Lib.hid rfl⟩
          rw [← HWZ.out, ← HB9.out]
          have HJz := Lib.hid (HJ.out.nw ((Fr.refl _ wr).alloc (.cells #[.int .i64 xa, .int .i64 (u : Nat), .int .i64 xc, .int .i64 (v : Nat), .bool xp] 81)))
          rw [← HWZ.out] at HJz
          have hz9 : wz.heap[B9]? = some (.cells #[.int .i64 xa, .int .i64 (u : Nat), .int .i64 xc, .int .i64 (v : Nat), .bool xp] 81 (0, 0)) := by rw [HWZ.out, HB9.out]; exact heap_alloc_new _ _
          obtain ⟨z1, z2, z5, z6, z7⟩ := five_c hz9
          have z3 := HJz.out.row.cell (i := u) hum
          have z4 := HJz.out.row.cell (i := v) hvm
          simp only [numFn, HFU.out, HFV.out] at z3 z4
          have b1 : (0 : Int) ≤ (u : Int) := by omega
          have b2 : (u : Int) < (mm : Int) := by omega
          have b3 : (0 : Int) ≤ (v : Int) := by omega
          have b4 : (v : Int) < (mm : Int) := by omega
          clear hz9 HWZ HB9 HJ
          go_quiet (fail)
          clear z1 z2 z3 z4 z5 z6 z7
          obtain ⟨fr, hfr⟩ : ∃ q : Nat, q = max fu fv := ⟨_, rfl⟩
          obtain ⟨fn, hfn⟩ : ∃ q : Nat, q = min fu fv := ⟨_, rfl⟩
          rw [show max (fu : Int) (fv : Int) = (fr : Int) by omega, show min (fu : Int) (fv : Int) = (fn : Int) by omega]
          have HJF : Hid (∀ x, Kn.joinF F u v x = if F x = fr then fn else F x) := Lib.hid (fun x => by unfold Kn.joinF; rw [HFU.out, HFV.out, hfr, hfn])
          have HJE : Hid (Kn.clsP X (k + 1) = Kn.joinF F u v) := Lib.hid (by rw [Kn.clsP, HU.out, HV.out, HFF.out])
          clear hfr hfn
          have HJq : Hid (PaC w (wz.drewN nq) cb mm F) := Lib.hid (HJz.out.nw ((Fr.refl _ wz).drewN _))
          obtain ⟨wq, HWQ⟩ : ∃ wq, Hid (wq = wz.drewN nq) := ⟨_, Lib.hid rfl⟩
          rw [← HWQ.out] at HJq ⊢
          clear HJz HWQ
          have HQ0 : Hid (PaC w wq cb mm (fun x => if x < 0 then Kn.joinF F u v x else F x)) := Lib.hid (HJq.out.congr fun x _ => by simp)
          go_wp2
          go_loopw [10, 62] (fun _ i wr => ∃ a : Nat, a ≤ mm ∧ i = .int .i64 a ∧ Hid (PaC w wr cb mm (fun x => if x < a then Kn.joinF F u v x else F x))) (fun _ i _ => mm - (intOf i).toNat)
          case atStart => exact ⟨0, by omega, rfl, HQ0⟩
          case round =>
            obtain ⟨a, ha, rfl, HA⟩ := hrel
            by_cases ham : a < mm
            · have q1 := HA.out.row.cell (i := a) ham
              have q2 := HA.out.row.frozen a
              obtain ⟨fa, HFA⟩ : ∃ q, Hid (F a = q) := ⟨_, Lib.hid rfl⟩
              simp only [numFn, Nat.lt_irrefl, if_false, HFA.out] at q1
              have b5 : (0 : Int) ≤ (a : Int) := by omega
              have b6 : (a : Int) < (mm : Int) := by omega
              by_cases hfa : fa = fr
              · have hb : ((fa : Int) == (fr : Int)) = true := by rw [hfa]; exact beq_self_eq_true _
                go_wp2
                go_roundw
                case rel =>
                  refine ⟨a + 1, by omega, by go_num, Lib.hid ((HA.out.set a fn).congr fun x _ => ?_)⟩
                  by_cases e : x = a
                  · rw [if_pos e, if_pos (by omega), HJF.out, e, HFA.out, if_pos hfa]
                  · rw [if_neg e]
                    by_cases e2 : x < a
                    · rw [if_pos e2, if_pos (by omega)]
                    · rw [if_neg e2, if_neg (by omega)]
                case measure => simp [intOf]; omega
              · have hb : ((fa : Int) == (fr : Int)) = false := by simp; omega
                go_wp2
                go_roundw
                case rel =>
                  refine ⟨a + 1, by omega, by go_num, Lib.hid (HA.out.congr fun x _ => ?_)⟩
                  by_cases e : x = a
                  · rw [if_pos (by omega), if_neg (by omega), HJF.out, e, HFA.out, if_neg hfa]
                  · by_cases e2 : x < a
                    · rw [if_pos e2, if_pos (by omega)]
                    · rw [if_neg e2, if_neg (by omega)]
                case measure => simp [intOf]; omega
            · obtain rfl : mm = a := by omega
              have HE : Hid (PaC w wr cb mm (Kn.clsP X (k + 1))) := Lib.hid (HA.out.congr fun x hx => by rw [if_pos hx, HJE.out])
              go_wp2
              go_roundw
              case rel => exact ⟨k + 1, by omega, by go_num, HE⟩
              case measure => simp [intOf]; omega
        · obtain rfl : n = k := by omega
          have HJ : Hid (PaC w wr cb mm (Kn.clsP X X.length)) := Lib.hid (by rw [← HN.out]; exact HJ.out)
          have HRep := Lib.hid (HX.out.cls_rep X.length (Nat.le_refl _))
          go_wp2_with fail
          obtain ⟨w2, HW2⟩ : ∃ z, Hid (z = wr.alloc (.cells (madeCells #[.int .i64 0] mm) 3)) := ⟨_, Lib.hid rfl⟩
          obtain ⟨ob, HOB⟩ : ∃ z, Hid (z = wr.heap.size) := ⟨_, Lib.hid rfl⟩
          have HO1 : Hid (PaO w w2 cb ob mm X 1) := Lib.hid (by
            rw [HW2.out, HOB.out]
            refine ⟨HJ.out.nw ((Fr.refl _ _).alloc _), rowIs_congr (World.rowIs_made wr (.int .i64 0) mm 3) fun j _ => ?_, HJ.out.new.size, by have := HJ.out.row.lt; omega⟩
            unfold numFn ovF
            rw [if_neg (by omega)]; rfl)
          rw [← HW2.out, ← HOB.out]
          clear HW2 HOB HJ
          go_loopw [12, 13] (fun mv i wr => ∃ a : Nat, 1 ≤ a ∧ a ≤ mm ∧ i = .int .i64 a ∧ mv = .int .i64 (Kn.ovM (Kn.clsP X X.length) (a - 1) : Nat) ∧ Hid (PaO w wr cb ob mm X a)) (fun _ i _ => mm - (intOf i).toNat)
          case atStart => exact ⟨1, Nat.le_refl _, by have := HMM.out; omega, rfl, rfl, HO1⟩
          case round =>
            obtain ⟨a, ha1, ha, rfl, rfl, HA⟩ := hrel
            obtain ⟨mv, HMV⟩ : ∃ z, Hid (z = Kn.ovM (Kn.clsP X X.length) (a - 1)) := ⟨_, Lib.hid rfl⟩
            have hmv : mv ≤ 100 := by
              have := List.countP_le_length (p := fun b => decide (Kn.clsP X X.length (b + 1) = b + 1)) (l := List.range (a - 1))
              rw [HMV.out]; unfold Kn.ovM; rw [List.length_range] at this; omega
            rw [← HMV.out]
            by_cases ham : a < mm
            · have q1 := HA.out.c.row.cell (i := a) ham
              have q3 := HA.out.o.frozen a
              have q4 := HA.out.o.cell (i := a) ham
              obtain ⟨fa, HFA⟩ : ∃ q, Hid (Kn.clsP X X.length a = q) := ⟨_, Lib.hid rfl⟩
              simp only [numFn, HFA.out] at q1
              have b5 : (0 : Int) ≤ (a : Int) := by omega
              have b6 : (a : Int) < (mm : Int) := by omega
              have hle := HRep.out.le a
              have hpos := HRep.out.pos a ha1
              have hidem := HRep.out.idem a
              rw [HFA.out] at hle hpos hidem
              have hstep : Hid (Kn.ovM (Kn.clsP X X.length) (a + 1 - 1) = mv + if fa = a then 1 else 0) := Lib.hid (by
                have := Kn.ovM_succ (Kn.clsP X X.length) (a - 1)
                rw [show a - 1 + 1 = a by omega, HFA.out] at this
                rw [show a + 1 - 1 = a by omega, this, HMV.out])
              have hov : Hid (Kn.overP X a = Kn.ovM (Kn.clsP X X.length) (fa - 1)) := Lib.hid (by unfold Kn.overP; rw [HFA.out]; rfl)
              have HID := Lib.hid hidem
              clear hidem
              by_cases hfa : fa = a
              · have hb : ((fa : Int) == (a : Int)) = true := by rw [hfa]; exact beq_self_eq_true _
                have HA2 := Lib.hid (HA.out.step ha1 (x := mv) (by rw [hov.out, hfa, HMV.out]))
                clear hle hpos
                go_wp2
                go_roundw
                case rel => exact ⟨a + 1, by omega, by omega, by go_num, by rw [hstep.out, if_pos hfa]; rfl, HA2⟩
                case measure => simp [intOf]; omega
              · have hb : ((fa : Int) == (a : Int)) = false := by simp; omega
                have q5 := HA.out.o.cell (i := fa) (by omega)
                obtain ⟨ov, HOV⟩ : ∃ q, Hid (q = Kn.overP X fa) := ⟨_, Lib.hid rfl⟩
                simp only [numFn, ovF] at q5
                rw [if_pos (by omega), ← HOV.out] at q5
                have HA2 := Lib.hid (HA.out.step ha1 (x := ov) (by rw [HOV.out, hov.out]; unfold Kn.overP; rw [HID.out]; rfl))
                have b7 : (0 : Int) ≤ (fa : Int) := by omega
                have b8 : (fa : Int) < (mm : Int) := by omega
                clear hle hpos
                go_wp2
                go_roundw
                case rel => exact ⟨a + 1, by omega, by omega, by go_num, by rw [hstep.out, if_neg hfa]; rfl, HA2⟩
                case measure => simp [intOf]; omega
            · obtain rfl : mm = a := by omega
              have hmv2 : Hid (mv = Kn.manyP X) := Lib.hid (by
                rw [HMV.out]
                unfold Kn.manyP
                rw [show mm - 1 = Kn.nArcs X by rw [← HM.out, HMM.out]; omega])
              go_wp2
              go_ret2
              have hM := HMM.out
              subst hM
              exact ⟨ob, by rw [hmv2.out]; rfl, HA.out.o, HA.out.c.new, HA.out.low⟩
end Go.Proofs.Ytcfpdeeipbekfaa
