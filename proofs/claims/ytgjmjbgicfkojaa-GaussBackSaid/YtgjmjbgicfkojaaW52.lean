/- Walks: check, at what Gauss tells. -/
import Derived.Test.YtgjmjbgicfkojaaW51
namespace Go.Proofs.Ytgjmjbgicfkojaa
open Go.RowKit

set_option maxRecDepth 100000 in
set_option maxHeartbeats 4000000 in
theorem check_any (n np c1 : Nat) (a1 : Option Addr) (p2 : Option Addr) (cp : Nat) (X : List Kn.Cr) (L : Int) (w : World) (hv : Rows OwnVs 0 72 w (.slice a1 np c1) (visL X)) (hX : Kn.Ok X) (hn : n = X.length) (hnp : np = (Kn.strandsL X).length) (hl : n ≤ 16) (l1 : 0 ≤ L) (l2 : L ≤ 16) (l3 : ¬ ((n : Int) + L = 0)) :
    Calls Try.prog 29 #[.slice a1 np c1, .slice p2 n cp, .int .i64 L] w fun e w' => e = .returned (.int .i64 0) ∧ New w w' := by
  obtain ⟨m, hm⟩ : ∃ m, m = Kn.nArcs X := ⟨_, rfl⟩
  have hm32 : m ≤ 32 := by rw [hm]; unfold Kn.nArcs; omega
  have HM := Lib.hid hm
  have HX := Lib.hid hX
  have HN := Lib.hid hn
  have HNP := Lib.hid hnp
  have hnp32 : np ≤ 32 := by have := HNP.out; have := strands_few X; omega
  have HV := Lib.hid hv
  clear hv hX hm hn hnp
  have l4 : ((n : Int) + L == 0) = false := by simpa using l3
  go_enter Try.func29, Try.ntmps29
  go_wp2
  go_loopw [7, 30] (fun t i wr => ∃ q : Nat, q ≤ np ∧ i = .int .i64 q ∧ t = .bool false ∧ Hid (New w wr)) (fun _ i _ => np - (intOf i).toNat)
  case atStart => exact ⟨0, by omega, rfl, rfl, Lib.hid (Fr.refl _ _)⟩
  case round =>
    obtain ⟨q, hq, rfl, rfl, HI⟩ := hrel
    by_cases hlt : q < np
    · have hqP : q < (Kn.strandsL X).length := by have := HNP.out; omega
      have hrows := HV.out.new HI.out fun _ _ hn => HI.out.owns hn fun _ _ x => x
      obtain ⟨g, c, u, he, hcell, hown⟩ := hrows.at (i := q) (by rw [visL_len]; exact hqP)
      rw [visL_len, ← HNP.out] at he
      cases he
      rw [visL_at hqP] at hown
      obtain ⟨a2, c2, rfl⟩ := OwnVs.sl hown
      obtain ⟨fl, HFL⟩ : ∃ m, Hid (m = (Kn.strandsL X)[q].length) := ⟨_, Lib.hid rfl⟩
      rw [List.length_map, ← HFL.out] at hcell hown
      have i1 : (0 : Int) ≤ (q : Int) := by omega
      have i2 : (q : Int) < (np : Int) := by omega
      have hfl : fl ≤ 32 := by have := part_few HX.out hqP; have := HFL.out; have := HM.out; omega
      have hfl0 : 0 < fl := by rw [HFL.out]; exact List.length_pos_iff.2 (Kn.strands_ne X _ (List.getElem_mem hqP))
      have hfe : ((fl : Int) == 0) = false := by simp; omega
      have HOW := Lib.hid hown
      clear hown hrows
      go_wp2
      clear hcell
      obtain ⟨wo, rfl⟩ : ∃ wo, wo = wr := ⟨_, rfl⟩
      go_loopw [42] (fun i wr => ∃ k : Nat, k ≤ fl ∧ i = .int .i64 k ∧ Hid (New w wr) ∧ Hid (OwnVs wr (.slice a2 fl c2) ((Kn.strandsL X)[q].map (visA X)))) (fun i _ => fl - (intOf i).toNat)
      case atStart => exact ⟨0, by omega, rfl, HI, HOW⟩
      case round =>
        obtain ⟨k, hk, rfl, HIk, HOk⟩ := hrel
        by_cases hkf : k < fl
        · have hkF : k < (Kn.strandsL X)[q].length := by have := HFL.out; omega
          obtain ⟨g3, c3, he3, hc3, hd3⟩ := HOk.out.at (i := k) (by rw [List.length_map]; exact hkF)
          rw [List.length_map, ← HFL.out] at he3
          cases he3
          simp only [List.getElem_map] at hc3 hd3
          rw [vis_at hqP hkF] at hc3 hd3
          have ht := Kn.vis_lt HX.out (time_lt HX.out hqP hkF)
          obtain ⟨pc, o, hp⟩ : ∃ pc o, Kn.vis X (Kn.offs (Kn.strandsL X) q + k) = (pc, o) := ⟨_, _, rfl⟩
          rw [hp] at hc3 hd3 ht
          simp only at hc3 hd3 ht
          rw [← HN.out] at ht
          have i3 : (0 : Int) ≤ (k : Int) := by omega
          have i4 : (k : Int) < (fl : Int) := by omega
          have i5 : (0 : Int) ≤ (pc : Int) := by omega
          have i6 : (pc : Int) < (n : Int) := by omega
          clear hp ht
          go_wp2
          go_roundw
          case rel => exact ⟨k + 1, by omega, by go_num, Lib.hid (HIk.out.alloc _), Lib.hid (((Fr.refl (fun _ => False) wr).alloc _).owns HOk.out fun _ _ x => x)⟩
          case measure => simp [intOf]; omega
        · obtain rfl : k = fl := by omega
          go_wp2
          go_roundw
          case rel => exact ⟨q + 1, by omega, by go_num, rfl, HIk⟩
          case measure => simp [intOf]; omega
    · obtain rfl : q = np := by omega
      go_wp2_with fail
      refine (twice_any n (.slice a1 q c1) X _ (HV.out.new HI.out fun _ _ hn => HI.out.owns hn fun _ _ x => x) HX.out HN.out hl).mono ?_
      rintro e w5 ⟨rfl, hE⟩
      have HE := Lib.hid hE
      clear hE
      go_wp2
      go_ret
      exact ⟨rfl, HI.out.trans HE.out⟩
end Go.Proofs.Ytgjmjbgicfkojaa
