/- Walks: Gauss. -/
import Derived.Test.YtgjmjbgicfkojaaW49
import Derived.Test.YtgjmjbgicfkojaaW33
namespace Go.Proofs.Ytgjmjbgicfkojaa
open Go.RowKit

def plusL (X : List Kn.Cr) : List Value := X.map fun x => .bool x.p
theorem plusL_len (X : List Kn.Cr) : (plusL X).length = X.length := by simp [plusL]
theorem plusL_take {X : List Kn.Cr} {k : Nat} (h : k < X.length) : (plusL X).take (k + 1) = (plusL X).take k ++ [.bool (Kn.cr X k).p] := by
  rw [List.take_succ_eq_append_getElem (by rw [plusL_len]; exact h)]
  congr 1
  simp [plusL, Kn.cr, List.getD_eq_getElem?_getD, h]
theorem one_bool (x : Bool) : ∀ u ∈ [Value.bool x], u.oneCell' = true := by
  intro u hu; rw [List.mem_singleton] at hu; subst hu; rfl
structure GI (w1 wr : World) (X : List Kn.Cr) (k : Nat) (o : Value) : Prop where
  new : New w1 wr
  out : wr.ownsRow w1.heap.size 4 1 o k ((plusL X).take k)
/- what Gauss hands back: visits, signs -/
structure GG (w w' : World) (X : List Kn.Cr) (v p : Value) : Prop where
  vis : Rows OwnVs w.heap.size 72 w' v (visL X)
  plus : w'.ownsRow w.heap.size 4 1 p X.length (plusL X)
def GaveGauss (ok : Bool) (X : List Kn.Cr) (w : World) (e : Ending) (w' : World) : Prop :=
  New w w' ∧ ((ok = true ∧ ∃ v p, e = .returned (.tuple #[v, p, .int .i64 0]) ∧ GG w w' X v p) ∨ (ok = false ∧ e = .returned (.tuple #[.slice none 0 0, .slice none 0 0, .int .i64 7])))

set_option maxRecDepth 100000 in
set_option maxHeartbeats 4000000 in
theorem gauss_any (a : Option Addr) (n c : Nat) (X : List Kn.Cr) (L : Int) (w : World) (hx : CrsAt w a X) (hn : n = X.length) (lx : n ≤ 9223372036854775807) (l1 : -9223372036854775808 ≤ L) (l2 : L ≤ 9223372036854775807) :
    Calls Try.prog 13 #[.agg #[.slice a n c, .int .i64 L]] w (GaveGauss (Kn.mayB X L) X w) := by
  have HN := Lib.hid hn
  have HX := Lib.hid hx
  clear hx hn
  obtain ⟨i0, hi, hz0, hz1, hz2⟩ := info_parts Try.info4
  go_enter Try.func13, Try.ntmps13
  go_wp2_with fail
  refine (new_any a n c X L _ (New.crs ((Fr.refl _ _).alloc _) HX.out) HN.out lx l1 l2).mono ?_
  rintro e w4 ⟨hF, h5⟩
  rcases h5 with ⟨ho, b, rfl, hs, _⟩ | ⟨ho, rfl⟩
  · have HF : Hid (New w w4) := Lib.hid (((Fr.refl _ _).alloc _).trans hF)
    have HO := Lib.hid ho
    have HS := Lib.hid hs
    have HOK := Lib.hid (mayB_ok ho)
    have hn16 : n ≤ 16 := by have := HOK.out.2; have := HN.out; omega
    have HI0 : Hid (GI w4 w4 X 0 (.slice none 0 0)) := Lib.hid ⟨Fr.refl _ _, ⟨rfl, .inl ⟨rfl, rfl⟩⟩⟩
    obtain ⟨v, bi, bo, base, hsh⟩ := hs
    obtain ⟨s0, _, _, _⟩ := hsh.c2
    obtain ⟨a1, c1, rfl, hcrs⟩ := CrsAt.of_owns hsh.own
    rw [← HN.out] at s0
    have HC := Lib.hid hcrs
    clear hF ho hsh hcrs
    go_wp2
    clear s0
    go_loopw [7, 23] (fun o i wr => ∃ k : Nat, k ≤ n ∧ i = .int .i64 k ∧ Hid (GI w4 wr X k o)) (fun _ i _ => n - (intOf i).toNat)
    case atStart => exact ⟨0, by omega, rfl, HI0⟩
    case round =>
      obtain ⟨k, hk, rfl, HI⟩ := hrel
      by_cases hkn : k < n
      · have hkX : k < X.length := by have := HN.out; omega
        obtain ⟨g, og, rfl, d1⟩ := (New.crs HI.out.new HC.out).at hkX
        obtain ⟨xa, xb, xc, xd, xp, HXC⟩ := cr_parts X k
        rw [HXC.out] at d1
        obtain ⟨e1, e2, e3, e4, e5⟩ := d1
        have HP : Hid ((Kn.cr X k).p = xp) := Lib.hid (by rw [HXC.out])
        have i1 : (0 : Int) ≤ (k : Int) := by omega
        have i2 : (k : Int) < (n : Int) := by omega
        have HRG := Lib.hid HI.out.out
        obtain ⟨a8, c8, rfl, _⟩ := own_shape2 HRG.out
        go_wp2_with (at_builtin; refine wpList_append_own _ rfl _ _ 31 rfl w4.heap.size 4 i0 _ 1 1 Try.underlying31 hi hz0 hz1 hz2 rfl (by decide) _ k _ rfl (World.ownsRow.alloc (World.ownsRow.alloc HRG.out _) _) ⟨wr.heap.size + 1, 0, none⟩ 1 1 [.bool xp] rfl rfl (cell_one' (by simp)) (one_bool _) (by unfold maxLen; omega) (by omega) (by have := HI.out.new.size; simp; omega) ?_; intro v' w7 hown hgrow _; have HOW7 := Lib.hid hown; have HGR := Lib.hid hgrow; clear hown hgrow)
        go_roundw
        case rel =>
          refine ⟨k + 1, by omega, by go_num, Lib.hid ⟨((HI.out.new.alloc _).alloc _).grown HGR.out fun k ek => .inr (own_lb HRG.out k ek), ?_⟩⟩
          rw [plusL_take hkX, HP.out]
          exact HOW7.out
        case measure => simp [intOf]; omega
      · obtain rfl : k = n := by omega
        go_wp2_with fail
        refine (visits_any b X L _ (New.shAt HI.out.new HS.out) HOK.out.1 HOK.out.2).mono ?_
        rintro e w5 ⟨v, rfl, hr, hE⟩
        have HR := Lib.hid hr
        have HE := Lib.hid hE
        clear hr hE
        have HG : Hid (GG w w5 X v u7) := Lib.hid (by
          refine ⟨?_, ?_⟩
          · obtain ⟨vs, h1, h2⟩ := HR.out
            exact ⟨vs, own_base h1 (HF.out.trans HI.out.new).size, h2⟩
          · have := HE.out.owns HI.out.out fun _ _ x => x
            rw [List.take_of_length_le (by rw [plusL_len, HN.out]; exact Nat.le_refl _)] at this
            rw [← HN.out]
            exact own_base this HF.out.size)
        go_wp2
        go_ret3
        exact ⟨(HF.out.trans HI.out.new).trans HE.out, .inl ⟨HO.out, v, _, rfl, HG.out⟩⟩
  · have HF : Hid (New w w4) := Lib.hid (((Fr.refl _ _).alloc _).trans hF)
    have HO := Lib.hid ho
    clear hF ho
    go_wp2
    go_ret3
    exact ⟨HF.out, .inr ⟨HO.out, rfl⟩⟩
end Go.Proofs.Ytgjmjbgicfkojaa
