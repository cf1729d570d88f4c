/- Walks: word once more, what it gives being a row of the call's own. -/
import Derived.Test.YtlnmboiangnpfaaW9
namespace Go.Proofs.Ytlnmboiangnpfaa
open Go.RowKit

def OwnWord (n most : Nat) (w : World) (e : Ending) (w' : World) : Prop :=
  ∃ xs, Bd.Word n xs ∧ xs.length ≤ most ∧ ∃ v, e = .returned v ∧ Own w.heap.size w' v xs ∧ New w w'

set_option maxHeartbeats 1000000 in
theorem wordOwn_any (a : Option Addr) (len c n most : Nat) (i mo : Int) (raw : List Int) (w : World) (hi : i = n) (hmo : mo = most) (hlen : len = raw.length) (h2 : 2 ≤ n) (h5 : n ≤ 5) (hm : most ≤ 20) (hx : IntsAt w a raw) (lx : raw.length ≤ 9223372036854775807) (hr : Raw raw) :
    Calls Try.prog 6 #[.int .i64 i, .slice a len c, .int .i64 mo] w (OwnWord n most w) := by
  subst hi
  subst hmo
  subst hlen
  have HX := Lib.hid hx
  have HR := Lib.hid hr
  clear hx hr
  obtain ⟨i0, hi, hz0, hz1, hz2⟩ := info_parts Try.info3
  go_enter Try.func6, Try.ntmps6
  go_wp2
  go_loopw [7, 8, 9] (fun v i _ wr => ∃ (k : Nat) (xs : List Int), k ≤ raw.length ∧ k ≤ most ∧ i = .int .i64 k ∧ xs.length = k ∧ Hid (Bd.Word n xs) ∧ Hid (Own w.heap.size wr v xs) ∧ Hid (New w wr)) (fun _ i _ _ => most - (intOf i).toNat)
  case atStart => exact ⟨0, [], by omega, by omega, rfl, rfl, Lib.hid Bd.word_nil, Lib.hid (World.ownsRow_nil _ _ _ _), Lib.hid (Fr.refl _ _)⟩
  case round =>
    obtain ⟨k, xs, hk, hkm, rfl, hxl, HWd, HO, HF⟩ := hrel
    have HXL := Lib.hid hxl
    have hxle : xs.length ≤ 20 := by omega
    clear hxl
    by_cases hlt : k < raw.length
    · by_cases hlm : k < most
      · obtain ⟨b, o, rfl, d1⟩ := (New.ints HF.out HX.out).at hlt
        obtain ⟨x, HXk⟩ : ∃ x, Hid (x = raw.getD k 0) := ⟨_, Lib.hid rfl⟩
        have hb := HR.out.get k
        rw [← HXk.out] at d1 hb
        have cc := picked_any x (2 * ((n : Int) - 1)) wr hb.1 hb.2 (by omega) (by omega)
        have hp := pick_range (n := x) (m := 2 * ((n : Int) - 1)) (by omega)
        obtain ⟨q, HQ⟩ : ∃ q, Hid (q = pick x (2 * ((n : Int) - 1))) := ⟨_, Lib.hid rfl⟩
        rw [← HQ.out] at cc hp
        have CC := Lib.hid cc
        have hp1 := hp.1
        have hp2 := hp.2
        clear cc hp hb
        by_cases hq : q < (n : Int) - 1
        · go_wp2_with fail
          refine CC.out.mono ?_
          rintro e w' ⟨rfl, rfl⟩
          go_wp2_with (at_builtin; refine wpList_append_own _ rfl _ _ 22 rfl w.heap.size 3 i0 (.int .i64 0) 1 8 Try.underlying22 hi hz0 hz1 hz2 rfl (by decide) _ xs.length (ints xs) rfl ?d0 ⟨_, 0, none⟩ 1 1 [.int .i64 (q + 1)] rfl rfl ?d2 ?d3 ?d4 ?d5 ?d6 ?_)
          case d0 => exact World.ownsRow.alloc HO.out _
          case d2 => exact cell_one_new _ _ _
          case d3 => exact one_ints _
          case d4 => unfold maxLen; omega
          case d5 => omega
          case d6 => have := HF.out.size; simp; omega
          intro v' w1 hown hgrow _
          have hnew := Lib.hid (New.appended HF.out HO.out hgrow)
          have ho := Lib.hid (Own.snoc hown)
          clear hown hgrow
          go_wp2
          go_roundw
          case rel => exact ⟨k + 1, xs ++ [q + 1], by omega, by omega, by go_num, by simp [HXL.out], Lib.hid (word_snoc HWd.out (.inl (by omega))), ho, hnew⟩
          case measure => simp [intOf]; omega
        · go_wp2_with fail
          refine CC.out.mono ?_
          rintro e w' ⟨rfl, rfl⟩
          go_wp2_with (at_builtin; refine wpList_append_own _ rfl _ _ 22 rfl w.heap.size 3 i0 (.int .i64 0) 1 8 Try.underlying22 hi hz0 hz1 hz2 rfl (by decide) _ xs.length (ints xs) rfl ?f0 ⟨_, 0, none⟩ 1 1 [.int .i64 ((n : Int) - 2 - q)] rfl rfl ?f2 ?f3 ?f4 ?f5 ?f6 ?_)
          case f0 => exact World.ownsRow.alloc HO.out _
          case f2 => exact cell_one_new _ _ _
          case f3 => exact one_ints _
          case f4 => unfold maxLen; omega
          case f5 => omega
          case f6 => have := HF.out.size; simp; omega
          intro v' w1 hown hgrow _
          have hnew := Lib.hid (New.appended HF.out HO.out hgrow)
          have ho := Lib.hid (Own.snoc hown)
          clear hown hgrow
          go_wp2
          go_roundw
          case rel => exact ⟨k + 1, xs ++ [(n : Int) - 2 - q], by omega, by omega, by go_num, by simp [HXL.out], Lib.hid (word_snoc HWd.out (.inr (by omega))), ho, hnew⟩
          case measure => simp [intOf]; omega
      · go_wp2
        go_ret
        exact ⟨xs, HWd.out, by rw [HXL.out]; exact hkm, _, rfl, HO.out, HF.out⟩
    · go_wp2
      go_ret
      exact ⟨xs, HWd.out, by rw [HXL.out]; exact hkm, _, rfl, HO.out, HF.out⟩
end Go.Proofs.Ytlnmboiangnpfaa
