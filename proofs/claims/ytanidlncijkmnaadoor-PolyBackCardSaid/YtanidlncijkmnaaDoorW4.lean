/- Walks: power. -/
import Derived.Test.YtanidlncijkmnaaDoorW3
import Derived.Test.YtanidlncijkmnaaDoorMText
import Derived.Test.YtanidlncijkmnaaDoorShelf
import Derived.Lib.AppendIntMem
import Derived.Lib.SmallJoins
import Derived.Lib.LaidTab
namespace Go.Proofs.YtanidlncijkmnaaDoor
open Go.RowKit

/- what the library reads -/
structure Env (w : World) : Prop where
  max : ∃ m, w.cell? ⟨0, 0, none⟩ = some (.int .i64 m)
  tab : Lib.TabIs Tryd.prog w "internal/strconv.uint64pow10" .u64 Lib.pow10Tab
theorem New.tab {w w' : World} (h : New w w') {name : String} {k : IntKind} {zs : List Int} (e : Lib.TabIs Tryd.prog w name k zs) : Lib.TabIs Tryd.prog w' name k zs := by
  unfold Lib.TabIs World.var? at *
  cases hg : Tryd.prog.globalNamed name with
  | none => simp [hg] at e
  | some g =>
    simp only [hg, Option.bind_some] at e ⊢
    have hlt : g < w.heap.size := by
      rcases Nat.lt_or_ge g w.heap.size with h' | h'
      · exact h'
      · rw [Array.getElem?_eq_none h'] at e; simp at e
    rw [h.block g hlt (fun x => x)]; exact e
theorem New.env {w w' : World} (h : New w w') (e : Env w) : Env w' := ⟨by obtain ⟨m, hm⟩ := e.max; exact ⟨m, h.cell hm (fun x => x)⟩, h.tab e.tab⟩
theorem new_grow (w : World) (k : Nat) (os : Array Obj) : New w (Sort.grow (w.drewN k) os) := Fr.ofBelow (Lib.below_grow _ _ (Nat.le_refl _) k os) _
theorem new_bytes (w : World) (e : TypeId) (s : ByteArray) : New w (Lib.bytesWorld w e s) := Fr.ofBelow (Go.Joins.below_bytesWorld _ _ e s (Nat.le_refl _)) _

theorem app_toList (a b : ByteArray) : (a ++ b).data.toList = a.data.toList ++ b.data.toList := by simp

/- a string's text -/
def GaveS (l : List UInt8) (w : World) (e : Ending) (w' : World) : Prop := ∃ b : ByteArray, e = .returned (.string b) ∧ Hid (b.data.toList = l) ∧ Hid (New w w')

theorem itoa_dig (n : Nat) (h : n ≤ 9) (w : World) : Calls Tryd.prog 14 #[.int .i64 n] w fun e w' => e = .returned (.string ⟨(Tx.dig n).toArray⟩) ∧ w' = w := by
  refine (Tryd.strconv_Itoa_small n (by omega) w).mono ?_
  rintro e w' ⟨rfl, rfl⟩
  rw [Tx.dig_eq (by omega)]
  exact ⟨rfl, rfl⟩
theorem itoa_any (e : Int) (h1 : -9 ≤ e) (h2 : e ≤ 9) (w : World) (he : Env w) : Calls Tryd.prog 14 #[.int .i64 e] w (GaveS (Tx.num e) w) := by
  refine (Tryd.strconv_Itoa e (by omega) (by omega) w he.tab).mono ?_
  rintro r w' ⟨rfl, k, os, rfl⟩
  exact ⟨_, rfl, Lib.hid (by simp [Tx.num_eq (show e.natAbs < 10 by omega)]), Lib.hid (new_grow _ _ _)⟩

set_option maxRecDepth 100000 in
set_option maxHeartbeats 400000 in
theorem power_any (e : Int) (h1 : -9 ≤ e) (h2 : e ≤ 9) (w : World) (he : Env w) : Calls Tryd.prog 15 #[.int .i64 e] w (GaveS (Tx.pow e) w) := by
  have CC := Lib.hid (itoa_any e h1 h2 w he)
  clear he
  by_cases h : e = 1
  · subst h
    go_enter Tryd.func15, Tryd.ntmps15
    go_wp2
    go_ret
    exact ⟨_, rfl, Lib.hid (by simp [Tx.pow]), Lib.hid (Fr.refl _ _)⟩
  · go_enter Tryd.func15, Tryd.ntmps15
    go_wp2_with fail
    refine CC.out.mono ?_
    rintro r w' ⟨b, rfl, hb, hw⟩
    have hs : b.size ≤ 2 := by rw [Lib.size_eq, hb.out]; exact Tx.num_len e
    go_wp2
    go_ret
    exact ⟨_, rfl, Lib.hid (by rw [app_toList, hb.out]; simp [Tx.pow, h]), hw⟩
end Go.Proofs.YtanidlncijkmnaaDoor
