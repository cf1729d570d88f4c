/- Walks: Text; Split at blanks. -/
import Derived.Test.YtanidlncijkmnaaDoorW6
namespace Go.Proofs.YtanidlncijkmnaaDoor
open Go.RowKit

set_option maxRecDepth 100000 in
set_option maxHeartbeats 400000 in
theorem Text_any (v : Value) (l : List Pl.T) (w : World) (hx : Ts w v l) (hm : Pl.May l) (hs : Tx.Sm l) (he : Env w) :
    Calls Tryd.prog 5 #[v] w fun r w' => ∃ b : ByteArray, r = .returned (.tuple #[.string b, .int .i64 0]) ∧ Hid (b.data.toList = Tx.full l) ∧ Hid (New w w') := by
  have CC := Lib.hid (may_any v l w hx hm)
  have HX := Lib.hid hx
  have HS := Lib.hid hs
  have HE := Lib.hid he
  have HM := Lib.hid hm
  clear hx hs he hm
  go_enter Tryd.func5, Tryd.ntmps5
  go_wp2_with fail
  refine CC.out.mono ?_
  rintro r wm ⟨rfl, hn⟩
  have HN := Lib.hid hn
  clear hn
  go_wp2_with fail
  refine (text_any v l wm (New.ts HN.out HX.out) HS.out HM.out.1 (New.env HN.out HE.out)).mono ?_
  rintro r wt ⟨b, rfl, hb, hw⟩
  go_wp2
  go_ret2
  exact ⟨b, rfl, hb, Lib.hid (HN.out.trans hw.out)⟩

/- the pieces of a string, in a row of its own -/
def WordsAt (w : World) (a : Nat) (ws : List (List UInt8)) : Prop := ∀ j, j < ws.length → ∃ x : ByteArray, w.cell? ⟨a, j, none⟩ = some (.string x) ∧ x.data.toList = ws.getD j []
theorem New.words {w w' : World} (h : New w w') {a : Nat} {ws : List (List UInt8)} (hw : WordsAt w a ws) : WordsAt w' a ws := fun j hj => by
  obtain ⟨x, h1, h2⟩ := hw j hj
  exact ⟨x, h.cell h1 (fun x => x), h2⟩
theorem split_any (b : ByteArray) (ws : List (List UInt8)) (hb : b.data.toList = Tx.joinS ws) (hne : ws ≠ []) (hbl : ∀ u ∈ ws, (32 : UInt8) ∉ u) (hl : b.size ≤ 2000) (w : World) (he : Env w) :
    Calls Tryd.prog 12 #[.string b, .string ⟨#[32]⟩] w fun e w' => ∃ a c, e = .returned (.slice (some ⟨a, 0, none⟩) ws.length c) ∧ Hid (WordsAt w' a ws) ∧ Hid (New w w') := by
  obtain ⟨m, hm⟩ := he.max
  have hj := Tx.split_join ws hne hbl
  refine (Tryd.strings_Split b ⟨#[32]⟩ m w (by omega) hm (by decide)).mono ?_
  rintro e w' ⟨rfl, rfl⟩
  have hc : Lib.countB b ⟨#[32]⟩ + 1 = ws.length := by
    show Lib.count b.data.toList [32] + 1 = _
    rw [hb]; exact hj.1
  have hs : (Lib.splitB ⟨#[32]⟩ 0 (Lib.countB b ⟨#[32]⟩) b).map (·.data.toList) = ws := by
    rw [Lib.splitB_data]
    show Lib.splitK [32] 0 (Lib.count b.data.toList [32]) b.data.toList = ws
    rw [hb]; exact hj.2
  rw [hc]
  refine ⟨_, _, rfl, Lib.hid fun j hj => ?_, Lib.hid (Fr.alloc (Fr.refl _ _) _)⟩
  obtain ⟨L, hL⟩ : ∃ L, L = Lib.splitB ⟨#[32]⟩ 0 (Lib.countB b ⟨#[32]⟩) b := ⟨_, rfl⟩
  rw [← hL] at hs ⊢
  subst hs
  have hjL : j < L.length := by simpa using hj
  refine ⟨L[j], ?_, by simp [List.getD_eq_getElem?_getD, hjL]⟩
  rw [cell_of_row _ w.heap.size j _ 9 (0, 0) (heap_alloc_new w _)]
  simp [hjL]

/- May, whatever it tells -/
theorem str_eq {a b : ByteArray} (h : a.data.toList = b.data.toList) : a = b := by
  have := congrArg List.toArray h
  cases a; cases b; simpa using this
theorem own_take {base : Nat} {w : World} {v : Value} {l : List Pl.T} (h : OwnT base w v l) : Ts w v l := h.ts
end Go.Proofs.YtanidlncijkmnaaDoor
