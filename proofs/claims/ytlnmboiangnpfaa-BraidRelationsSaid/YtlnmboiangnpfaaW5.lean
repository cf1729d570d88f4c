/- Walks over lists of numbers: reciprocals, and whether two are equal. -/
import Derived.Test.YtlnmboiangnpfaaW4
namespace Go.Proofs.Ytlnmboiangnpfaa
open Go.RowKit

/- at a there are the numbers xs -/
def IntsAt (w : World) (a : Option Addr) (xs : List Int) : Prop :=
  xs = [] ∨ ∃ b o, a = some ⟨b, o, none⟩ ∧ ∀ i, i < xs.length → w.cell? ⟨b, o + i, none⟩ = some (.int .i64 (xs.getD i 0))
/- small numbers, and not too many -/
def Small (xs : List Int) : Prop := ∀ x ∈ xs, -100 ≤ x ∧ x ≤ 100

theorem Small.get {xs : List Int} (h : Small xs) (k : Nat) : -100 ≤ xs.getD k 0 ∧ xs.getD k 0 ≤ 100 := by
  rw [List.getD_eq_getElem?_getD]
  cases e : xs[k]? with
  | none => simp
  | some x => exact h x (List.mem_of_getElem? e)
theorem Fr.ints {S : Nat → Prop} {w w' : World} (h : Fr S w w') {a : Option Addr} {xs : List Int} (hi : IntsAt w a xs) (hs : ∀ b o, a = some ⟨b, o, none⟩ → ¬ S b) : IntsAt w' a xs := by
  rcases hi with rfl | ⟨b, o, rfl, hc⟩
  · exact .inl rfl
  · exact .inr ⟨b, o, rfl, fun i hi => h.cell (hc i hi) (hs b o rfl)⟩
theorem New.ints {w w' : World} (h : New w w') {a : Option Addr} {xs : List Int} (hi : IntsAt w a xs) : IntsAt w' a xs := Fr.ints h hi fun _ _ _ x => x
theorem IntsAt.at {w : World} {a : Option Addr} {xs : List Int} (h : IntsAt w a xs) {k : Nat} (hk : k < xs.length) : ∃ b o, a = some ⟨b, o, none⟩ ∧ w.cell? ⟨b, o + k, none⟩ = some (.int .i64 (xs.getD k 0)) := by
  rcases h with rfl | ⟨b, o, rfl, hc⟩
  · simp at hk
  · exact ⟨b, o, rfl, hc k hk⟩

set_option maxHeartbeats 400000 in
theorem equalInts_any (a a' : Option Addr) (c c' : Nat) (xs ys : List Int) (w : World) (hx : IntsAt w a xs) (hy : IntsAt w a' ys) (lx : xs.length ≤ 4000000000) (_ly : ys.length ≤ 4000000000) :
    Calls Try.prog 17 #[.slice a xs.length c, .slice a' ys.length c'] w fun e w' => e = .returned (.bool (xs == ys)) ∧ New w w' := by
  have HX := Lib.hid hx
  have HY := Lib.hid hy
  clear hx hy
  by_cases hl : xs.length = ys.length
  · have hne : ((xs.length : Int) != (ys.length : Int)) = false := by rw [bne_eq_false_iff_eq]; omega
    have HL := Lib.hid hl
    clear hl
    go_enter Try.func17, Try.ntmps17
    go_wp2
    go_loopw [5] (fun i wr => ∃ k : Nat, k ≤ xs.length ∧ i = .int .i64 k ∧ Hid (∀ j, j < k → xs.getD j 0 = ys.getD j 0) ∧ Hid (New w wr)) (fun i _ => xs.length - (intOf i).toNat)
    case atStart => exact ⟨0, by omega, rfl, Lib.hid (fun j h => by omega), Lib.hid (Fr.refl _ _)⟩
    case round =>
      obtain ⟨k, hk, rfl, HK, HW⟩ := hrel
      by_cases hlt : k < xs.length
      · have hlt' : k < ys.length := by have := HL.out; omega
        obtain ⟨b, o, rfl, d1⟩ := (New.ints HW.out HX.out).at hlt
        obtain ⟨b', o', rfl, d2⟩ := (New.ints HW.out HY.out).at hlt'
        obtain ⟨x, HXk⟩ : ∃ x, Hid (x = xs.getD k 0) := ⟨_, Lib.hid rfl⟩
        obtain ⟨y, HYk⟩ : ∃ y, Hid (y = ys.getD k 0) := ⟨_, Lib.hid rfl⟩
        rw [← HXk.out] at d1
        rw [← HYk.out] at d2
        by_cases he : x = y
        · have e2 : (x != y) = false := by rw [bne_eq_false_iff_eq]; exact he
          have HE := Lib.hid he
          clear he
          go_wp2
          go_quiet (fail)
          go_wp2
          go_roundw
          case rel =>
            refine ⟨k + 1, by omega, by go_num, Lib.hid fun j hj => ?_, Lib.hid (HW.out.drewN _)⟩
            by_cases c : j = k
            · subst c; rw [← HXk.out, ← HYk.out]; exact HE.out
            · exact HK.out j (by omega)
          case measure => simp [intOf]; omega
        · have e2 : (x != y) = true := by rw [bne_iff_ne]; exact he
          have HE := Lib.hid he
          clear he
          go_wp2
          go_quiet (fail)
          go_wp2
          go_ret
          refine ⟨ret_bool ?_, HW.out.drewN _⟩
          symm
          rw [beq_eq_false_iff_ne]
          intro e
          exact HE.out (by rw [HXk.out, HYk.out, e])
      · go_wp2
        go_ret
        refine ⟨ret_bool ?_, HW.out⟩
        symm
        rw [beq_iff_eq]
        apply List.ext_getElem HL.out
        intro j h1 h2
        have := HK.out j (by omega)
        rwa [List.getD_eq_getElem?_getD, List.getD_eq_getElem?_getD, List.getElem?_eq_getElem h1, List.getElem?_eq_getElem h2] at this
  · have hne : ((xs.length : Int) != (ys.length : Int)) = true := by rw [bne_iff_ne]; omega
    have HL := Lib.hid hl
    clear hl
    go_enter Try.func17, Try.ntmps17
    go_wp2
    go_ret
    refine ⟨ret_bool ?_, Fr.refl _ _⟩
    symm
    rw [beq_eq_false_iff_ne]
    exact fun e => HL.out (by rw [e])
end Go.Proofs.Ytlnmboiangnpfaa
