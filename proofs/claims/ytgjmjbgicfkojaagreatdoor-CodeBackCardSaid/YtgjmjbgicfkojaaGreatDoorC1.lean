/- Walks: number, at a small number's digits. -/
import Derived.Shelf.Strings.SlTrimAscii
import Derived.Lib.SmallJoins
import Derived.Lib.LaidTab
import Derived.Lib.AppendIntMem
import Derived.Test.YtgjmjbgicfkojaaGreatDoorW9
import Derived.Test.YtgjmjbgicfkojaaGreatDoorShelf3
import Derived.Test.YtgjmjbgicfkojaaGreatDoorMAll
namespace Go.Proofs.YtgjmjbgicfkojaaGreatDoor
open Go.RowKit

theorem new_bytes (w : World) (e : TypeId) (s : ByteArray) : New w (Lib.bytesWorld w e s) := Fr.ofBelow (Go.Joins.below_bytesWorld _ _ e s (Nat.le_refl _)) _
theorem new_below {w w' : World} (h : Below w.heap.size w w') : New w w' := Fr.ofBelow h _
theorem str_eq {a b : ByteArray} (h : a.data.toList = b.data.toList) : a = b := by
  have := congrArg List.toArray h
  cases a; cases b; simpa using this
theorem mk_eq (b : ByteArray) : (⟨b.data.toList.toArray⟩ : ByteArray) = b := by simp
theorem toL {b : ByteArray} {l : List UInt8} (hb : b.data.toList = l) : b.toList = l := by rw [Lib.toList_data, hb]
theorem bytes_ne {b : ByteArray} {l : List UInt8} (hb : b.data.toList = l) {c : List UInt8} (h : l ≠ c) : (b.toList == c) = false := by
  rw [toL hb]; simpa using h
abbrev digs : List UInt8 := [48, 49, 50, 51, 52, 53, 54, 55, 56, 57]
theorem trim_digs {l : List UInt8} (h : ∀ b ∈ l, 48 ≤ b.toNat ∧ b.toNat ≤ 57) : Lib.trimS l digs = [] := by
  have key : ∀ b : UInt8, 48 ≤ b.toNat → b.toNat ≤ 57 → digs.contains b = true := by
    intro b h1 h2
    have : b = UInt8.ofNat b.toNat := by simp
    have hc : b.toNat = 48 ∨ b.toNat = 49 ∨ b.toNat = 50 ∨ b.toNat = 51 ∨ b.toNat = 52 ∨ b.toNat = 53 ∨ b.toNat = 54 ∨ b.toNat = 55 ∨ b.toNat = 56 ∨ b.toNat = 57 := by omega
    rcases hc with e | e | e | e | e | e | e | e | e | e <;> rw [this, e] <;> decide
  have h0 : ∀ m : List UInt8, (∀ b ∈ m, 48 ≤ b.toNat ∧ b.toNat ≤ 57) → m.dropWhile (digs.contains ·) = [] := by
    intro m
    induction m with
    | nil => intro _; rfl
    | cons b m ih =>
      intro hm
      have hb := hm b (by simp)
      rw [List.dropWhile_cons, if_pos (key b hb.1 hb.2)]
      exact ih fun c hc => hm c (by simp [hc])
  unfold Lib.trimS Lib.trimRightS
  rw [h0 l.reverse (fun b hb => h b (List.mem_reverse.1 hb))]
  rfl
theorem trim_any (b : ByteArray) (l : List UInt8) (hb : b.data.toList = l) (hl : l.length ≤ 3) (hd : ∀ c ∈ l, 48 ≤ c.toNat ∧ c.toNat ≤ 57) (w : World) :
    Calls Tryz.prog 56 #[.string b, .string ⟨#[48, 49, 50, 51, 52, 53, 54, 55, 56, 57]⟩] w fun e w' => e = .returned (.string ⟨#[]⟩) ∧ New w w' := by
  refine (Any.strings_Trim_laid Tryz.lays160 (by kernel_rfl) b ⟨#[48, 49, 50, 51, 52, 53, 54, 55, 56, 57]⟩ w (by rw [Lib.size_eq, hb]; omega) (by decide) (ascii_of_all (by decide))).mono ?_
  rintro e w' ⟨rfl, hB⟩
  rw [hb]
  refine ⟨?_, new_below hB⟩
  have := trim_digs hd
  show Ending.returned (.string ⟨(Lib.trimS l digs).toArray⟩) = _
  rw [this]
theorem atoi_any (b : ByteArray) (l : List UInt8) (n : Int) (hb : b.data.toList = l) (hl : l.length ≤ 18) (hc : Lib.atoi l = some n) (w : World) :
    Calls Tryz.prog 57 #[.string b] w fun e w' => e = .returned (.tuple #[.int .i64 n, .nilIface]) ∧ New w w' := by
  refine (Tryz.strconv_Atoi b n (by rw [Lib.size_eq, hb]; omega) (by rw [hb]; exact hc) w).mono ?_
  rintro e w' ⟨rfl, t, rfl⟩
  exact ⟨rfl, new_bytes _ _ _⟩
set_option maxRecDepth 100000 in
set_option maxHeartbeats 1000000 in
theorem number_any (n : Nat) (h : n ≤ 32) (b : ByteArray) (hb : b.data.toList = Tx.dd n) (w : World) :
    Calls Tryz.prog 34 #[.string b] w fun e w' => e = .returned (.tuple #[.int .i64 n, .bool true]) ∧ New w w' := by
  have hD := Tx.dd_is h
  have h0 : (b.toList == []) = false := bytes_ne hb (fun e => by have := hD.pos; rw [e] at this; simp at this)
  have hs : (b.size : Int) ≤ 3 := by have := hD.len; rw [Lib.size_eq, hb]; omega
  have hs0 : (0 : Int) ≤ (b.size : Int) := by omega
  have HT := Lib.hid (fun w => trim_any b _ hb (by have := hD.len; omega) hD.dig w)
  have HA := Lib.hid (fun w => atoi_any b _ n hb (by have := hD.len; omega) hD.atoi w)
  clear hb hD
  go_enter Tryz.func34, Tryz.ntmps34
  go_wp2_with fail
  refine (HT.out _).mono ?_
  rintro e w1 ⟨rfl, hN⟩
  have HN1 := Lib.hid hN
  clear hN
  go_wp2_with fail
  refine (HA.out _).mono ?_
  rintro e w2 ⟨rfl, hN⟩
  have HN2 := Lib.hid (HN1.out.trans hN)
  clear hN
  go_wp2
  go_quiet (fail)
  go_wp2
  go_ret2
  exact ⟨rfl, HN2.out.drewN _⟩
end Go.Proofs.YtgjmjbgicfkojaaGreatDoor
