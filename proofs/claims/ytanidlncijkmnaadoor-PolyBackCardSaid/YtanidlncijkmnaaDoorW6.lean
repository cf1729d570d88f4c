/- Walks: term. -/
import Derived.Test.YtanidlncijkmnaaDoorW5
namespace Go.Proofs.YtanidlncijkmnaaDoor
open Go.RowKit

theorem mk_eq (b : ByteArray) : (⟨b.data.toList.toArray⟩ : ByteArray) = b := by simp
theorem cut_any (b sep : ByteArray) (l s x y : List UInt8) (p : Bool) (hb : b.data.toList = l) (hs : sep.data.toList = s) (hl : l.length ≤ 100) (hc : Lib.cut l s = (x, y, p)) (w : World) (he : Env w) :
    Calls Tryd.prog 18 #[.string b, .string sep] w fun e w' => ∃ u v : ByteArray, e = .returned (.tuple #[.string u, .string v, .bool p]) ∧ Hid (u.data.toList = x) ∧ Hid (v.data.toList = y) ∧ Hid (New w w') := by
  obtain ⟨m, hm⟩ := he.max
  refine (Tryd.strings_Cut b sep m w (by rw [Lib.size_eq, hb]; omega) hm).mono ?_
  rintro e w' ⟨rfl, n, rfl⟩
  rw [hb, hs, hc]
  exact ⟨_, _, rfl, Lib.hid rfl, Lib.hid rfl, Lib.hid ((Fr.refl _ _).drewN n)⟩
theorem atoi_any (b : ByteArray) (l : List UInt8) (n : Int) (hb : b.data.toList = l) (hl : l.length ≤ 18) (hc : Lib.atoi l = some n) (w : World) :
    Calls Tryd.prog 19 #[.string b] w fun e w' => e = .returned (.tuple #[.int .i64 n, .nilIface]) ∧ Hid (New w w') := by
  refine (Tryd.strconv_Atoi b n (by rw [Lib.size_eq, hb]; omega) (by rw [hb]; exact hc) w).mono ?_
  rintro e w' ⟨rfl, t, rfl⟩
  exact ⟨rfl, Lib.hid (new_bytes _ _ _)⟩
theorem prefix_any (b p : ByteArray) (l s : List UInt8) (r : Bool) (hb : b.data.toList = l) (hp : p.data.toList = s) (hr : Lib.hasPrefix l s = r) (w : World) :
    Calls Tryd.prog 11 #[.string b, .string p] w fun e w' => e = .returned (.bool r) ∧ w' = w := by
  refine (Tryd.strings_HasPrefix b p w).mono ?_
  rintro e w' ⟨rfl, rfl⟩
  rw [hb, hp, hr]
  exact ⟨rfl, rfl⟩
theorem cutp_no (b p : ByteArray) (l s : List UInt8) (hb : b.data.toList = l) (hp : p.data.toList = s) (hr : Lib.hasPrefix l s = false) (w : World) :
    Calls Tryd.prog 20 #[.string b, .string p] w fun e w' => ∃ u, e = .returned (.tuple #[.string u, .bool false]) ∧ w' = w := by
  refine (Tryd.strings_CutPrefix b p w).mono ?_
  rintro e w' ⟨rfl, rfl⟩
  rw [hb, hp, hr]
  exact ⟨_, rfl, rfl⟩
theorem cutp_yes (b p : ByteArray) (l s r : List UInt8) (hb : b.data.toList = l) (hp : p.data.toList = s) (hr : Lib.hasPrefix l s = true) (ht : Lib.trimPrefix l s = r) (w : World) :
    Calls Tryd.prog 20 #[.string b, .string p] w fun e w' => ∃ u : ByteArray, e = .returned (.tuple #[.string u, .bool true]) ∧ Hid (u.data.toList = r) ∧ w' = w := by
  refine (Tryd.strings_CutPrefix b p w).mono ?_
  rintro e w' ⟨rfl, rfl⟩
  rw [hb, hp, hr, ht]
  exact ⟨_, rfl, Lib.hid rfl, rfl⟩

theorem New.frozen {w w' : World} (h : New w w') {p : Addr} {v : Value} (hp : w.cell? p = some v) : w'.frozen? p = w.frozen? p := World.frozen?_of_block (w := w) (h.block p.block (World.block_lt_of_cell? w p hp) (fun x => x))
/- a world in which the two cells of term lie -/
def Cf (wr : World) (p : Addr) (v : Value) : Prop := wr.cell? p = some v ∧ wr.frozen? p = false
theorem Cf.nextC {w w' : World} {p : Addr} {v : Value} (h : Cf w p v) (k : New w w') : Cf w' p v := ⟨k.cell h.1 (fun x => x), (k.frozen h.1).trans h.2⟩
def Tw (w wr : World) (a b c d : Int) : Prop := New w wr ∧ Cf wr ⟨w.heap.size, 0, none⟩ (.int .i64 a) ∧ Cf wr ⟨w.heap.size, 1, none⟩ (.int .i64 b) ∧ Cf wr ⟨w.heap.size + 1, 0, none⟩ (.int .i64 c) ∧ Cf wr ⟨w.heap.size + 1, 1, none⟩ (.int .i64 d)
theorem Tw.next {w wr w' : World} {a b c d : Int} (h : Tw w wr a b c d) (k : New wr w') : Tw w w' a b c d :=
  ⟨h.1.trans k, h.2.1.nextC k, h.2.2.1.nextC k, h.2.2.2.1.nextC k, h.2.2.2.2.nextC k⟩
theorem cf_new (w : World) (x y : Value) (t : TypeId) : Cf (w.alloc (.cells #[x, y] t)) ⟨w.heap.size, 0, none⟩ x ∧ Cf (w.alloc (.cells #[x, y] t)) ⟨w.heap.size, 1, none⟩ y := by
  have hg : (w.alloc (.cells #[x, y] t)).heap[w.heap.size]? = some (.cells #[x, y] t (0, 0)) := heap_alloc_new w _
  exact ⟨⟨cell_two_new w x y t 0 _ rfl, frozen_of_row _ _ _ _ _ hg⟩, ⟨cell_two_new w x y t 1 _ rfl, frozen_of_row _ _ _ _ _ hg⟩⟩
theorem Tw.start (w : World) (a b c d : Int) : Tw w ((w.alloc (.cells #[.int .i64 a, .int .i64 b] 31)).alloc (.cells #[.int .i64 c, .int .i64 d] 31)) a b c d := by
  have h1 := cf_new w (.int .i64 a) (.int .i64 b) 31
  have h2 := cf_new (w.alloc (.cells #[.int .i64 a, .int .i64 b] 31)) (.int .i64 c) (.int .i64 d) 31
  have hs : (w.alloc (.cells #[.int .i64 a, .int .i64 b] 31)).heap.size = w.heap.size + 1 := by simp
  rw [hs] at h2
  have k : New (w.alloc (.cells #[.int .i64 a, .int .i64 b] 31)) ((w.alloc (.cells #[.int .i64 a, .int .i64 b] 31)).alloc (.cells #[.int .i64 c, .int .i64 d] 31)) := Fr.alloc (Fr.refl _ _) _
  exact ⟨Fr.alloc (Fr.alloc (Fr.refl _ _) _) _, h1.1.nextC k, h1.2.nextC k, h2.1, h2.2⟩

theorem Cf.other {w : World} {p q : Addr} {v u : Value} (h : Cf w p v) (hn : q ≠ p) : Cf (w.setCell q u) p v := ⟨(World.cell?_setCell_other _ _ _ _ hn).trans h.1, by rw [World.frozen?_setCell]; exact h.2⟩
theorem Cf.same {w : World} {p : Addr} {v u : Value} (h : Cf w p v) : Cf (w.setCell p u) p u := ⟨World.cell?_setCell_same _ _ _ h.1, by rw [World.frozen?_setCell]; exact h.2⟩
theorem Tw.exp {w wr : World} {a b c d : Int} (h : Tw w wr a b c d) (x : Int) : Tw w (wr.setCell ⟨w.heap.size + 1, 0, none⟩ (.int .i64 x)) a b x d :=
  ⟨h.1.setCell (.inr (by simp)) _, h.2.1.other (by simp), h.2.2.1.other (by simp), h.2.2.2.1.same, h.2.2.2.2.other (by simp)⟩
theorem Tw.coef {w wr : World} {a b c d : Int} (h : Tw w wr a b c d) (x : Int) : Tw w (wr.setCell ⟨w.heap.size + 1, 1, none⟩ (.int .i64 x)) a b c x :=
  ⟨h.1.setCell (.inr (by simp)) _, h.2.1.other (by simp), h.2.2.1.other (by simp), h.2.2.2.1.other (by simp), h.2.2.2.2.same⟩
theorem Tw.ret {w wr : World} {a b c d : Int} (h : Tw w wr a b c d) (x y : Value) : New w ((wr.setCell ⟨w.heap.size, 0, none⟩ x).setCell ⟨w.heap.size, 1, none⟩ y) :=
  (h.1.setCell (.inr (by simp)) _).setCell (.inr (by simp)) _

set_option maxRecDepth 100000 in
set_option maxHeartbeats 4000000 in
theorem term_any (b : ByteArray) (e : Int) (n : Nat) (hb : b.data.toList = Tx.body e n) (h1 : -4 ≤ e) (h2 : e ≤ 4) (h3 : 1 ≤ n) (h4 : n ≤ 9) (w : World) (he : Env w) :
    Calls Tryd.prog 13 #[.string b] w fun r w' => r = .returned (.agg #[.int .i64 e, .int .i64 n]) ∧ New w w' := by
  have HB := Lib.hid hb
  have HE := Lib.hid he
  have HL := Lib.hid (Tx.body_len e n)
  have HPL := Lib.hid (Tx.pow_len e)
  obtain ⟨i0, hi, hz0, hz1, hz2⟩ := info_parts info31
  clear hb he
  rcases Tx.road h1 h2 h3 h4 with ⟨rfl, r1, r2, r3⟩ | ⟨r0, rfl, r1, r2, r3⟩ | ⟨r0, r0', r1, r2⟩
  · have R1 := Lib.hid r1
    have R2 := Lib.hid r2
    have R3 := Lib.hid r3
    clear r1 r2 r3
    go_enter Tryd.func13, Tryd.ntmps13
    go_wp2_with fail
    refine (cut_any b ⟨#[42]⟩ _ [42] _ _ _ HB.out rfl (by have := HL.out; omega) R1.out _ (New.env (Tw.start w 0 0 0 1).1 HE.out)).mono ?_
    rintro r wc ⟨u, v, rfl, hu, hv, hc⟩
    have HT := Lib.hid ((Tw.start w 0 0 0 1).next hc.out)
    clear hc
    go_wp2_with fail
    refine (prefix_any b ⟨#[116]⟩ _ [116] _ HB.out rfl R2.out _).mono ?_
    rintro r wc' ⟨rfl, rfl⟩
    go_wp2_with fail
    refine (atoi_any b _ _ HB.out (by have := HL.out; omega) R3.out _).mono ?_
    rintro r wa ⟨rfl, hc⟩
    have HT2 := Lib.hid (HT.out.next hc.out)
    obtain ⟨_, ⟨g2, f2⟩, ⟨g3, f3⟩, ⟨g4, f4⟩, ⟨g5, f5⟩⟩ := HT2.out
    clear hc HT
    go_wp2
    refine bodyPost_ret (v := .agg #[.int .i64 0, .int .i64 n]) (by simp [results, Tryd.results13, go_sem, g2, g3]) rfl ⟨rfl, (HT2.out.coef n).ret _ _⟩
  · have R1 := Lib.hid r1
    have R2 := Lib.hid r2
    have R3 := Lib.hid r3
    have HPW := Lib.hid (Tx.pw h1 h2)
    have HB' : Hid (b.data.toList = Tx.pow e) := Lib.hid (HB.out.trans r3)
    clear r1 r2 r3
    rcases HPW.out with ⟨rfl, p1⟩ | ⟨p0, p1, p2, p3⟩
    · have P1 := Lib.hid p1
      clear p1
      go_enter Tryd.func13, Tryd.ntmps13
      go_wp2_with fail
      refine (cut_any b ⟨#[42]⟩ _ [42] _ _ _ HB.out rfl (by have := HL.out; omega) R1.out _ (New.env (Tw.start w 0 0 0 1).1 HE.out)).mono ?_
      rintro r wc ⟨u, v, rfl, hu, hv, hc⟩
      have HT := Lib.hid ((Tw.start w 0 0 0 1).next hc.out)
      clear hc
      obtain ⟨_, ⟨g2, f2⟩, ⟨g3, f3⟩, ⟨g4, f4⟩, ⟨g5, f5⟩⟩ := HT.out
      go_wp2_with fail
      refine (prefix_any b ⟨#[116]⟩ _ [116] _ HB.out rfl R2.out _).mono ?_
      rintro r wc' ⟨rfl, rfl⟩
      go_wp2_with fail
      refine (cutp_no b ⟨#[116, 94]⟩ _ [116, 94] HB'.out rfl P1.out _).mono ?_
      rintro r wc' ⟨u', rfl, rfl⟩
      go_wp2
      refine bodyPost_ret (v := .agg #[.int .i64 1, .int .i64 ((1 : Nat) : Int)]) (by simp [results, Tryd.results13, go_sem, g2, g3]) rfl ⟨rfl, (HT.out.exp 1).ret _ _⟩
    · have P1 := Lib.hid p1
      have P2 := Lib.hid p2
      have P3 := Lib.hid p3
      clear p1 p2 p3
      go_enter Tryd.func13, Tryd.ntmps13
      go_wp2_with fail
      refine (cut_any b ⟨#[42]⟩ _ [42] _ _ _ HB.out rfl (by have := HL.out; omega) R1.out _ (New.env (Tw.start w 0 0 0 1).1 HE.out)).mono ?_
      rintro r wc ⟨u, v, rfl, hu, hv, hc⟩
      have HT := Lib.hid ((Tw.start w 0 0 0 1).next hc.out)
      clear hc
      obtain ⟨_, ⟨g2, f2⟩, ⟨g3, f3⟩, ⟨g4, f4⟩, ⟨g5, f5⟩⟩ := HT.out
      go_wp2_with fail
      refine (prefix_any b ⟨#[116]⟩ _ [116] _ HB.out rfl R2.out _).mono ?_
      rintro r wc' ⟨rfl, rfl⟩
      go_wp2_with fail
      refine (cutp_yes b ⟨#[116, 94]⟩ _ [116, 94] _ HB'.out rfl P1.out P2.out _).mono ?_
      rintro r wc' ⟨u', rfl, hu', rfl⟩
      go_wp2_with fail
      refine (atoi_any u' _ _ hu'.out (by have := Tx.num_len e; omega) P3.out _).mono ?_
      rintro r wa ⟨rfl, hc⟩
      have HT2 := Lib.hid ((HT.out.exp 1).next hc.out)
      clear g2 g3 g4 g5 f2 f3 f4 f5 hc
      obtain ⟨_, ⟨g2, f2⟩, ⟨g3, f3⟩, ⟨g4, f4⟩, ⟨g5, f5⟩⟩ := HT2.out
      go_wp2
      refine bodyPost_ret (v := .agg #[.int .i64 e, .int .i64 ((1 : Nat) : Int)]) (by simp [results, Tryd.results13, go_sem, g2, g3]) rfl ⟨rfl, (HT2.out.exp e).ret _ _⟩
  · have R1 := Lib.hid r1
    have R2 := Lib.hid r2
    have HPW := Lib.hid (Tx.pw h1 h2)
    clear r1 r2
    rcases HPW.out with ⟨rfl, p1⟩ | ⟨p0, p1, p2, p3⟩
    · have P1 := Lib.hid p1
      clear p1
      go_enter Tryd.func13, Tryd.ntmps13
      go_wp2_with fail
      refine (cut_any b ⟨#[42]⟩ _ [42] _ _ _ HB.out rfl (by have := HL.out; omega) R1.out _ (New.env (Tw.start w 0 0 0 1).1 HE.out)).mono ?_
      rintro r wc ⟨u, v, rfl, hu, hv, hc⟩
      have HT0 := Lib.hid ((Tw.start w 0 0 0 1).next hc.out)
      clear hc
      go_wp2_with fail
      refine (atoi_any u _ _ hu.out (by show 1 ≤ 18; omega) R2.out _).mono ?_
      rintro r wa ⟨rfl, hc⟩
      have HT := Lib.hid (HT0.out.next hc.out)
      clear hc
      obtain ⟨_, ⟨g2, f2⟩, ⟨g3, f3⟩, ⟨g4, f4⟩, ⟨g5, f5⟩⟩ := HT.out
      go_wp2_with fail
      refine (cutp_no v ⟨#[116, 94]⟩ _ [116, 94] hv.out rfl P1.out _).mono ?_
      rintro r wc' ⟨u', rfl, rfl⟩
      go_wp2
      refine bodyPost_ret (v := .agg #[.int .i64 1, .int .i64 n]) (by simp [results, Tryd.results13, go_sem, g2, g3]) rfl ⟨rfl, ((HT.out.coef n).exp 1).ret _ _⟩
    · have P1 := Lib.hid p1
      have P2 := Lib.hid p2
      have P3 := Lib.hid p3
      clear p1 p2 p3
      go_enter Tryd.func13, Tryd.ntmps13
      go_wp2_with fail
      refine (cut_any b ⟨#[42]⟩ _ [42] _ _ _ HB.out rfl (by have := HL.out; omega) R1.out _ (New.env (Tw.start w 0 0 0 1).1 HE.out)).mono ?_
      rintro r wc ⟨u, v, rfl, hu, hv, hc⟩
      have HT0 := Lib.hid ((Tw.start w 0 0 0 1).next hc.out)
      clear hc
      go_wp2_with fail
      refine (atoi_any u _ _ hu.out (by show 1 ≤ 18; omega) R2.out _).mono ?_
      rintro r wa ⟨rfl, hc⟩
      have HT := Lib.hid (HT0.out.next hc.out)
      clear hc
      obtain ⟨_, ⟨g2, f2⟩, ⟨g3, f3⟩, ⟨g4, f4⟩, ⟨g5, f5⟩⟩ := HT.out
      go_wp2_with fail
      refine (cutp_yes v ⟨#[116, 94]⟩ _ [116, 94] _ hv.out rfl P1.out P2.out _).mono ?_
      rintro r wc' ⟨u', rfl, hu', rfl⟩
      go_wp2_with fail
      refine (atoi_any u' _ _ hu'.out (by have := Tx.num_len e; omega) P3.out _).mono ?_
      rintro r wb ⟨rfl, hc⟩
      have HT2 := Lib.hid (((HT.out.coef n).exp 1).next hc.out)
      clear g2 g3 g4 g5 f2 f3 f4 f5 hc
      obtain ⟨_, ⟨g2, f2⟩, ⟨g3, f3⟩, ⟨g4, f4⟩, ⟨g5, f5⟩⟩ := HT2.out
      go_wp2
      refine bodyPost_ret (v := .agg #[.int .i64 e, .int .i64 n]) (by simp [results, Tryd.results13, go_sem, g2, g3]) rfl ⟨rfl, (HT2.out.exp e).ret _ _⟩
end Go.Proofs.YtanidlncijkmnaaDoor
