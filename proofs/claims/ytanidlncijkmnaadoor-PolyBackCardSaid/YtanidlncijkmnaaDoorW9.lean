/- Walks: PolyBack. -/
import Derived.Test.YtanidlncijkmnaaDoorW8
namespace Go.Proofs.YtanidlncijkmnaaDoor
open Go.RowKit

theorem ofMap_val {f : Int → Int} {ks : List Int} {t : Pl.T} (h : t ∈ Pl.ofMap f ks) : t.2 = f t.1 := by
  induction ks with
  | nil => cases h
  | cons k ks ih =>
    unfold Pl.ofMap at h
    split at h
    · exact ih h
    · rcases List.mem_cons.1 h with rfl | h
      · rfl
      · exact ih h
theorem sm_sm4 (raw : List Int) : Tx.Sm4 (sm raw) := fun t ht => by
  have h1 := (sm_in raw).2.1 t ht
  have h2 := Pl.form_ne (sm_in raw).1 ht
  have h3 := ofMap_val (show t ∈ Pl.ofMap (smf raw) (Pl.keys (min raw.length 9)) from ht)
  have h4 := smf_le raw t.1
  rw [← h3] at h4
  exact ⟨h1, h2, by omega, by omega⟩
theorem sm_may (raw : List Int) : Pl.May (sm raw) := Pl.may_of (sm_in raw).1 (sm_in raw).2 (by omega) (by omega)
theorem sm_len (raw : List Int) : (sm raw).length ≤ 9 := by
  have := smk_length raw (min raw.length 9)
  unfold sm; omega
theorem sameT (va vb : Value) (x : List Pl.T) (w : World) (hx : Ts w va x) (hy : Ts w vb x) (lx : x.length ≤ 1000000) :
    Calls Tryd.prog 7 #[va, vb] w fun e w' => e = .returned (.bool true) ∧ New w w' := by
  refine (same_any va vb x x w hx hy lx lx).mono ?_
  rintro e w' ⟨rfl, hn⟩
  exact ⟨ret_bool (decide_eq_true rfl), hn⟩

/- the fixed polynomial -/
def fx : List Pl.T := [(-2, -1), (0, 3), (1, -2), (5, 1)]
theorem fx_sm : Tx.Sm fx := by unfold Tx.Sm fx; decide
theorem fx_may : Pl.May fx := ⟨by decide, by simp [Pl.Form, fx], by unfold fx; decide⟩
theorem fx_text : Tx.full fx = [45, 116, 94, 45, 50, 32, 43, 32, 51, 32, 45, 32, 50, 42, 116, 32, 43, 32, 116, 94, 53] := by decide
theorem fx_ts (w : World) : Ts (w.alloc (.cells (cellsT fx).toArray 31)) (.slice (some ⟨w.heap.size, 0, none⟩) 4 4) fx := by
  refine ⟨_, _, rfl, .inr ⟨w.heap.size, 0, rfl, fun i hi => ?_⟩⟩
  have hg : (w.alloc (.cells (cellsT fx).toArray 31)).heap[w.heap.size]? = some (.cells (cellsT fx).toArray 31 (0, 0)) := heap_alloc_new w _
  have hc := cellsT_at fx i hi
  refine ⟨?_, ?_⟩
  · rw [cell_of_row _ _ _ _ 31 (0, 0) hg, Nat.zero_add]; simpa using hc.1
  · rw [cell_of_row _ _ _ _ 31 (0, 0) hg, Nat.zero_add]; simpa using hc.2

set_option maxRecDepth 100000 in
set_option maxHeartbeats 4000000 in
theorem back_any (a : Option Addr) (len c : Nat) (raw : List Int) (w : World) (hlen : len = raw.length) (hx : IntsAt w a raw) (lx : raw.length ≤ 9223372036854775807) (hr : Raw raw) (he : Env w) :
    Calls Tryd.prog 3 #[.slice a len c] w fun e w' => e = .returned (.bool true) ∧ New w w' := by
  have HSM := Lib.hid (small_any a len c raw w hlen hx lx hr)
  have HS := Lib.hid (sm_sm4 raw)
  have HM := Lib.hid (sm_may raw)
  have HL := Lib.hid (sm_len raw)
  have HE := Lib.hid he
  obtain ⟨l, hl⟩ : ∃ l, l = sm raw := ⟨_, rfl⟩
  rw [← hl] at HSM HS HM HL
  clear hlen hx lx hr he hl
  go_enter Tryd.func3, Tryd.ntmps3
  go_wp2_with fail
  refine HSM.out.mono ?_
  rintro r w1 ⟨va, rfl, hv, hn1⟩
  have HV := Lib.hid hv
  have HN1 := Lib.hid hn1
  clear hv hn1
  go_wp2_with fail
  refine (Text_any va l w1 HV.out HM.out HS.out.sm (New.env HN1.out HE.out)).mono ?_
  rintro r w2 ⟨b, rfl, hb, HN2⟩
  go_wp2_with fail
  refine (Read_any b l w2 hb.out HS.out HM.out HL.out (New.env (HN1.out.trans HN2.out) HE.out)).mono ?_
  rintro r w3 ⟨vb, rfl, hvb, hn3⟩
  have HVB := Lib.hid hvb
  have HN3 := Lib.hid hn3
  clear hvb hn3
  go_wp2_with fail
  have HN3' : Hid (New w (w3.alloc (.cells (cellsT fx).toArray 31))) := Lib.hid (Fr.alloc (HN1.out.trans (HN2.out.trans HN3.out)) _)
  refine (Text_any _ fx _ (fx_ts w3) fx_may fx_sm (New.env HN3'.out HE.out)).mono ?_
  rintro r w4 ⟨bt, rfl, hbt, HN4⟩
  obtain rfl : bt = ⟨#[45, 116, 94, 45, 50, 32, 43, 32, 51, 32, 45, 32, 50, 42, 116, 32, 43, 32, 116, 94, 53]⟩ := str_eq (hbt.out.trans fx_text)
  have HK4 : Hid (New w3 w4) := Lib.hid ((Fr.alloc (Fr.refl _ w3) _).trans HN4.out)
  go_wp2_with fail
  refine (sameT va vb l w4 (New.ts (HN2.out.trans (HN3.out.trans HK4.out)) HV.out) (New.ts HK4.out HVB.out) (by have := HL.out; omega)).mono ?_
  rintro r w5 ⟨rfl, hn5⟩
  have HN5 := Lib.hid hn5
  clear hn5
  go_wp2
  go_ret
  exact ⟨rfl, HN3'.out.trans (HN4.out.trans HN5.out)⟩
end Go.Proofs.YtanidlncijkmnaaDoor
