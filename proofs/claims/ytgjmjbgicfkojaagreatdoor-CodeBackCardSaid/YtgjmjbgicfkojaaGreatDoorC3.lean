/- Walks: FieldsFuncSeq and its iterator, at a text of words. -/
import Derived.Test.YtgjmjbgicfkojaaGreatDoorC2
import Derived.Test.YtgjmjbgicfkojaaGreatDoorW10
namespace Go.Proofs.YtgjmjbgicfkojaaGreatDoor
open Go.RowKit Go.Shelf
attribute [local go_sem] Oper.semAt_some

theorem ok_parts {x : UInt8} (h : Tx.okByte x = true) : x.toNat < 128 ∧ x.toNat ≠ 9 ∧ x.toNat ≠ 10 ∧ x.toNat ≠ 13 ∧ x.toNat ≠ 32 := by
  simp only [Tx.okByte, Bool.and_eq_true, decide_eq_true_eq] at h
  obtain ⟨⟨⟨⟨h1, h2⟩, h3⟩, h4⟩, h5⟩ := h
  have key : ∀ n : Nat, n < 256 → x ≠ UInt8.ofNat n → x.toNat ≠ n := fun n hn hx e => hx (by rw [← e]; simp)
  exact ⟨h1, key 9 (by omega) h2, key 10 (by omega) h3, key 13 (by omega) h4, key 32 (by omega) h5⟩
set_option maxHeartbeats 400000 in
theorem sep_no (n : Nat) (h : n < 128) (h1 : n ≠ 9) (h2 : n ≠ 10) (h3 : n ≠ 13) (h4 : n ≠ 32) (w : World) :
    Calls Tryz.prog 17 #[.int .i32 n] w fun e w' => e = .returned (.bool false) ∧ w' = w := by
  have e1 : ((n : Int) == 9) = false := by simp; omega
  have e2 : ((n : Int) == 10) = false := by simp; omega
  have e3 : ((n : Int) == 13) = false := by simp; omega
  have e4 : ((n : Int) == 32) = false := by simp; omega
  clear h1 h2 h3 h4
  go_enter Tryz.func17, Tryz.ntmps17
  go_wp2
  go_ret
  exact ⟨rfl, rfl⟩
set_option maxHeartbeats 400000 in
theorem sep_yes (w : World) : Calls Tryz.prog 17 #[.int .i32 32] w fun e w' => e = .returned (.bool true) ∧ w' = w := by
  go_enter Tryz.func17, Tryz.ntmps17
  go_wp2
  go_ret
  exact ⟨rfl, rfl⟩
abbrev encW (x : Tx.Wd) : Array Value := #[.string ⟨(Tx.wt x).toArray⟩]
theorem ext_word {b : ByteArray} {u v : List Tx.Wd} {x : Tx.Wd} {P I : Nat} (hb : b.data.toList = Tx.joinW 32 ((u ++ x :: v).map Tx.wt)) (hP : P = (Tx.pre (u.map Tx.wt)).length) (hI : I = P + (Tx.wt x).length) : (⟨(Tx.wt x).toArray⟩ : ByteArray) = b.extract P I := by
  apply str_eq
  rw [ext_data, hb, hI, Nat.add_sub_cancel_left, hP, List.map_append, List.map_cons, Tx.cut_word]
theorem ext_last {b : ByteArray} {u : List Tx.Wd} {x : Tx.Wd} {P : Nat} (hb : b.data.toList = Tx.joinW 32 ((u ++ [x]).map Tx.wt)) (hP : P = (Tx.pre (u.map Tx.wt)).length) : (⟨(Tx.wt x).toArray⟩ : ByteArray) = b.extract P b.size := by
  apply str_eq
  rw [Lib.extract_to_end, hb, hP, List.map_append, List.map_cons, List.map_nil, Tx.cut_last]
theorem dec_at {b : ByteArray} {I : Nat} {c : UInt8} (h : b.data.toList[I]? = some c) : (b.extract I b.size).data.toList[0]? = some c ∧ I < b.size := by
  refine ⟨by rw [Lib.extract_to_end, List.getElem?_drop, Nat.add_zero]; exact h, ?_⟩
  rw [Lib.size_eq]
  exact (List.getElem?_eq_some_iff.1 h).1
theorem pre_next (u : List Tx.Wd) (x : Tx.Wd) : (Tx.pre ((u ++ [x]).map Tx.wt)).length = (Tx.pre (u.map Tx.wt)).length + (Tx.wt x).length + 1 := by
  rw [List.map_append, List.map_cons, List.map_nil, Tx.pre_snoc]; simp; omega

set_option maxRecDepth 100000 in
set_option maxHeartbeats 4000000 in
theorem fields1_in (nn l Bs Bf : Nat) (b : ByteArray) (L : List Tx.Wd) (J Jx : List Tx.Wd → World → Prop)
    (hY : ∀ pre x W, J pre W → pre.length < L.length → YieldAt Fence.wide (nn - 1) Tryz.prog l (encW x) W fun e W' => (e = .returned (.bool true) ∧ J (pre ++ [x]) W' ∧ KpB Bs Bf W W') ∨ (e = .returned (.bool false) ∧ Jx (pre ++ [x]) W'))
    (W : World) (hs : W.cell? ⟨Bs, 0, none⟩ = some (.string b)) (hf : W.cell? ⟨Bf, 0, none⟩ = some (.func (.func 17) #[] #[])) (hb : b.data.toList = Tx.joinW 32 (L.map Tx.wt)) (hL : L ≠ []) (hsz : b.size ≤ 2000) (h0 : J [] W) :
    CallsIn Fence.wide nn Tryz.prog 29 #[.func (.yield l) #[] #[], .pointer (some ⟨Bs, 0, none⟩), .pointer (some ⟨Bf, 0, none⟩)] W fun e W' => (∃ v, e = .returned v) ∧ ((∃ ys : List Tx.Wd, ys = L ∧ J ys W') ∨ (∃ pre, True ∧ Jx pre W')) := by
  have HB := Lib.hid hb
  have HY := Lib.hid hY
  obtain ⟨x0, v0, hL0⟩ : ∃ x v, L = x :: v := by
    cases L with
    | nil => exact absurd rfl hL
    | cons x v => exact ⟨x, v, rfl⟩
  have hz0 : (0 : Int) ≤ (b.size : Int) := by omega
  have HJ0 := Lib.hid h0
  clear hb hY hL h0
  refine callsIn_of_wp Tryz.func29 rfl trivial ?_ rfl
  simp only [Tryz.ntmps29, List.size_toArray, List.length_cons, List.length_nil, Nat.reduceAdd, Nat.reduceSub, Array.replicate_succ, Array.replicate_zero, List.push_toArray, List.append_toArray, List.nil_append, List.cons_append]
  gi_wp2
  gi_loopw [4, 5] (fun st p wr => ∃ (u : List Tx.Wd) (x : Tx.Wd) (v : List Tx.Wd) (P I : Nat), p = .int .i64 I ∧ Hid (u ++ x :: v = L) ∧ Hid (P = (Tx.pre (u.map Tx.wt)).length) ∧ Hid (P ≤ I ∧ I ≤ P + (Tx.wt x).length) ∧ I ≤ b.size ∧ ((st = .int .i64 (-1) ∧ Hid (I = P)) ∨ (st = .int .i64 P ∧ Hid (P < I))) ∧ Hid (J u wr) ∧ wr.cell? ⟨Bs, 0, none⟩ = some (.string b) ∧ wr.cell? ⟨Bf, 0, none⟩ = some (.func (.func 17) #[] #[])) (fun _ p _ => b.size - (intOf p).toNat)
  case atStart => exact ⟨[], x0, v0, 0, 0, rfl, Lib.hid hL0.symm, Lib.hid rfl, Lib.hid ⟨by omega, by omega⟩, by omega, .inl ⟨rfl, Lib.hid rfl⟩, HJ0, hs, hf⟩
  case round =>
    obtain ⟨u, x, v, P, I, rfl, HU, HP, HI, hIs, hst, HJ, c1, c2⟩ := hrel
    have HB2 : Hid (b.data.toList = Tx.joinW 32 ((u ++ x :: v).map Tx.wt)) := Lib.hid (by rw [HU.out]; exact HB.out)
    have i1 : (0 : Int) ≤ (I : Int) := by omega
    have i2 : (I : Int) ≤ (b.size : Int) := by omega
    by_cases hin : I < P + (Tx.wt x).length
    · obtain ⟨c, HCc⟩ : ∃ c, Hid (c = (Tx.wt x)[I - P]'(by have := HI.out.1; omega)) := ⟨_, Lib.hid rfl⟩
      have hbc : b.data.toList[I]? = some c := by
        rw [HB2.out, List.map_append, List.map_cons, HCc.out]
        have := Tx.at_word (u.map Tx.wt) (Tx.wt x) (v.map Tx.wt) (j := I - P) (by have := HI.out.1; omega)
        rwa [← HP.out, show P + (I - P) = I by have := HI.out.1; omega] at this
      obtain ⟨hd, hlt⟩ := dec_at hbc
      obtain ⟨k0, k1, k2, k3, k4⟩ := ok_parts ((Tx.wt_ok x).1 c (by rw [HCc.out]; exact List.getElem_mem _))
      obtain ⟨n, HNn⟩ : ∃ n, Hid (n = c.toNat) := ⟨_, Lib.hid rfl⟩
      have HDC := Lib.hid fun w => Tryz.utf8_DecodeRuneInString_ascii (b.extract I b.size) c w hd k0
      rw [← HNn.out] at HDC k0 k1 k2 k3 k4
      have HSN := Lib.hid fun w => sep_no n k0 k1 k2 k3 k4 w
      have i3 : (I : Int) < (b.size : Int) := by omega
      have HIN := Lib.hid hin
      clear hbc hd k1 k2 k3 k4
      clear HCc
      clear hin
      rcases hst with ⟨rfl, HIP⟩ | ⟨rfl, HIP⟩
      · gi_wp2_with (first
          | (refine ⟨trivial, wideD, ?_⟩; gi_at_call 30; refine (callsIn_wide.2 (HDC.out _)).mono ?_; rintro e w' ⟨rfl, rfl⟩)
          | (refine ⟨trivial, wideD, ?_⟩; gi_at_call 17; refine (callsIn_wide.2 (HSN.out _)).mono ?_; rintro e w' ⟨rfl, rfl⟩))
        go_roundw
        case rel => exact ⟨u, x, v, P, I + 1, by go_num, HU, HP, Lib.hid ⟨by have := HI.out.1; omega, by have := HIN.out; omega⟩, by omega, .inr ⟨by rw [← HIP.out], Lib.hid (by have := HI.out.1; omega)⟩, HJ, c1, c2⟩
        case measure => simp [intOf]; omega
      · gi_wp2_with (first
          | (refine ⟨trivial, wideD, ?_⟩; gi_at_call 30; refine (callsIn_wide.2 (HDC.out _)).mono ?_; rintro e w' ⟨rfl, rfl⟩)
          | (refine ⟨trivial, wideD, ?_⟩; gi_at_call 17; refine (callsIn_wide.2 (HSN.out _)).mono ?_; rintro e w' ⟨rfl, rfl⟩))
        go_roundw
        case rel => exact ⟨u, x, v, P, I + 1, by go_num, HU, HP, Lib.hid ⟨by have := HI.out.1; omega, by have := HIN.out; omega⟩, by omega, .inr ⟨rfl, Lib.hid (by have := HI.out.1; omega)⟩, HJ, c1, c2⟩
        case measure => simp [intOf]; omega
    · have hIe : I = P + (Tx.wt x).length := by have := HI.out.2; omega
      have hpos := (Tx.wt_ok x).2.2
      have HIE := Lib.hid hIe
      rcases hst with ⟨_, HIP⟩ | ⟨rfl, HIP⟩
      · exact absurd HIP.out (by omega)
      have hPI : (P : Int) ≤ (I : Int) := by omega
      have hP0 : (0 : Int) ≤ (P : Int) := by omega
      have hul : u.length < L.length := by rw [← HU.out]; simp
      obtain ⟨fn, tmps, assign, body, hy, hR⟩ := HY.out u x wr HJ.out hul
      cases v with
      | nil =>
        have hbl : I = b.size := by
          have h1 := congrArg List.length HB2.out
          rw [List.map_append, List.map_cons, List.map_nil, Tx.len_at, ← HP.out, ← Lib.size_eq] at h1
          simp [Tx.tail] at h1
          omega
        subst hbl
        simp only [encW] at hy
        rw [ext_last HB2.out HP.out] at hy
        clear hin hIe hpos HIE
        gi_wp2
        refine ⟨wideD, hR.mono ?_⟩
        rintro e W3 (⟨rfl, hJ3, _⟩ | ⟨rfl, hJx3⟩)
        · have HU2 := Lib.hid HU.out
          gi_wp2
          go_end0
          exact ⟨⟨_, rfl⟩, .inl ⟨u ++ [x], HU.out, hJ3⟩⟩
        · gi_wp2
          go_end0
          exact ⟨⟨_, rfl⟩, .inr ⟨u ++ [x], trivial, hJx3⟩⟩
      | cons y v =>
        have hbc : b.data.toList[I]? = some 32 := by
          rw [HB2.out, List.map_append, List.map_cons]
          have := Tx.at_end (u.map Tx.wt) (Tx.wt x) (v := (y :: v).map Tx.wt) (by simp)
          rwa [← HP.out, ← hIe] at this
        obtain ⟨hd, hlt⟩ := dec_at hbc
        have HDC := Lib.hid fun w => Tryz.utf8_DecodeRuneInString_ascii (b.extract I b.size) 32 w hd (by decide)
        have hn32 : (((32 : UInt8).toNat : Nat) : Int) = 32 := rfl
        rw [hn32] at HDC
        have i3 : (I : Int) < (b.size : Int) := by omega
        simp only [encW] at hy
        rw [ext_word HB2.out HP.out hIe] at hy
        have HPN : Hid (I + 1 = (Tx.pre ((u ++ [x]).map Tx.wt)).length) := Lib.hid (by rw [pre_next, ← HP.out]; omega)
        clear hbc hd hin hIe hpos
        gi_wp2_with (first
          | (refine ⟨trivial, wideD, ?_⟩; gi_at_call 30; refine (callsIn_wide.2 (HDC.out _)).mono ?_; rintro e w' ⟨rfl, rfl⟩)
          | (refine ⟨trivial, wideD, ?_⟩; gi_at_call 17; refine (callsIn_wide.2 (sep_yes _)).mono ?_; rintro e w' ⟨rfl, rfl⟩))
        refine ⟨wideD, hR.mono ?_⟩
        rintro e W3 (⟨rfl, hJ3, hk3⟩ | ⟨rfl, hJx3⟩)
        · have d1 : W3.cell? ⟨Bs, 0, none⟩ = some (.string b) := hk3.1 _ c1
          have d2 : W3.cell? ⟨Bf, 0, none⟩ = some (.func (.func 17) #[] #[]) := hk3.2 _ c2
          have HJ3 := Lib.hid hJ3
          clear hJ3 hk3 hy hR
          gi_wp2
          go_roundw
          case rel => exact ⟨u ++ [x], y, v, I + 1, I + 1, by go_num, Lib.hid (by rw [← HU.out]; simp), HPN, Lib.hid ⟨by omega, by omega⟩, by omega, .inl ⟨rfl, Lib.hid rfl⟩, HJ3, d1, d2⟩
          case measure => simp [intOf]; omega
        · gi_wp2
          refine bodyPost_ret (results_none rfl _ _ _) rfl ?_
          exact ⟨⟨_, rfl⟩, .inr ⟨u ++ [x], trivial, hJx3⟩⟩

set_option maxHeartbeats 1000000 in
theorem fields_in (nn : Nat) (b : ByteArray) (w : World) :
    CallsIn Fence.wide nn Tryz.prog 18 #[.string b, .func (.func 17) #[] #[]] w fun e w' => e = .returned (.func (.func 29) #[] #[.pointer (some ⟨w.heap.size, 0, none⟩), .pointer (some ⟨w.heap.size + 1, 0, none⟩)]) ∧ w' = (w.alloc (.cells #[.string b] 9)).alloc (.cells #[.func (.func 17) #[] #[]] 52) := by
  refine callsIn_of_wp Tryz.func18 rfl trivial ?_ rfl
  simp only [Tryz.ntmps18, List.size_toArray, List.length_cons, List.length_nil, Nat.reduceAdd, Nat.reduceSub, Array.replicate_succ, Array.replicate_zero, List.push_toArray, List.append_toArray, List.nil_append, List.cons_append]
  gi_wp2
  go_ret
  exact ⟨rfl, rfl⟩
/- what FieldsFuncSeq hands back tells each word once, in order -/
theorem fields_stops (nn Bs Bf : Nat) (b : ByteArray) (L : List Tx.Wd) (w : World) (h1 : Bs < w.heap.size) (h2 : Bf < w.heap.size) (hs : w.cell? ⟨Bs, 0, none⟩ = some (.string b)) (hf : w.cell? ⟨Bf, 0, none⟩ = some (.func (.func 17) #[] #[])) (hb : b.data.toList = Tx.joinW 32 (L.map Tx.wt)) (hL : L ≠ []) (hsz : b.size ≤ 2000) :
    SeqStopsK Fence.wide nn Tryz.prog 29 #[.pointer (some ⟨Bs, 0, none⟩), .pointer (some ⟨Bf, 0, none⟩)] encW (KpB Bs Bf) (fun ys => ys = L) (fun _ => True) L.length w := fun l J Jx W hW _ _ hY h0 =>
  fields1_in nn l Bs Bf b L J Jx hY W ((hW.cell (p := ⟨Bs, 0, none⟩) h1).trans hs) ((hW.cell (p := ⟨Bf, 0, none⟩) h2).trans hf) hb hL hsz h0
end Go.Proofs.YtgjmjbgicfkojaaGreatDoor
