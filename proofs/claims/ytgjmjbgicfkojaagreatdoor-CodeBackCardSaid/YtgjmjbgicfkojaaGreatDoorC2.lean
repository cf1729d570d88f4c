/- Walks: cross, at a crossing's word. -/
import Derived.Test.YtgjmjbgicfkojaaGreatDoorC1
import Derived.Test.YtgjmjbgicfkojaaGreatDoorW18
namespace Go.Proofs.YtgjmjbgicfkojaaGreatDoor
open Go.RowKit

/- what the library reads -/
def Env (w : World) : Prop := ∃ m, w.cell? ⟨3, 0, none⟩ = some (.int .i64 m)
theorem New.env {w w' : World} (h : New w w') (e : Env w) : Env w' := by obtain ⟨m, hm⟩ := e; exact ⟨m, h.cell hm fun x => x⟩
theorem prefix_any (b p : ByteArray) (l s : List UInt8) (r : Bool) (hb : b.data.toList = l) (hp : p.data.toList = s) (hr : Lib.hasPrefix l s = r) (w : World) :
    Calls Tryz.prog 31 #[.string b, .string p] w fun e w' => e = .returned (.bool r) ∧ w' = w := by
  refine (Tryz.strings_HasPrefix b p w).mono ?_
  rintro e w' ⟨rfl, rfl⟩
  rw [hb, hp, hr]
  exact ⟨rfl, rfl⟩
theorem suffix_any (b p : ByteArray) (l s : List UInt8) (r : Bool) (hb : b.data.toList = l) (hl : l.length ≤ 100) (hp : p.data.toList = s) (hr : Lib.hasSuffix l s = r) (w : World) :
    Calls Tryz.prog 32 #[.string b, .string p] w fun e w' => e = .returned (.bool r) ∧ w' = w := by
  refine (Tryz.strings_HasSuffix b p w (by rw [Lib.size_eq, hb]; omega)).mono ?_
  rintro e w' ⟨rfl, rfl⟩
  rw [hb, hp, hr]
  exact ⟨rfl, rfl⟩
/- the pieces of a string, in a row of its own -/
def WordsAt (w : World) (a : Nat) (ws : List (List UInt8)) : Prop := ∀ j (h : j < ws.length), ∃ x : ByteArray, w.cell? ⟨a, j, none⟩ = some (.string x) ∧ x.data.toList = ws[j]
theorem New.words {w w' : World} (h : New w w') {a : Nat} {ws : List (List UInt8)} (hw : WordsAt w a ws) : WordsAt w' a ws := fun j hj => by
  obtain ⟨x, h1, h2⟩ := hw j hj
  exact ⟨x, h.cell h1 (fun x => x), h2⟩
theorem split_any (b : ByteArray) (ws : List (List UInt8)) (hb : b.data.toList = Tx.joinW 44 ws) (hne : ws ≠ []) (hbl : ∀ u ∈ ws, (44 : UInt8) ∉ u) (hl : b.size ≤ 2000) (w : World) (he : Env w) :
    Calls Tryz.prog 33 #[.string b, .string ⟨#[44]⟩] w fun e w' => ∃ a, e = .returned (.slice (some ⟨a, 0, none⟩) ws.length ws.length) ∧ WordsAt w' a ws ∧ New w w' := by
  obtain ⟨m, hm⟩ := he
  have hj := Tx.split_join 44 ws hne hbl
  refine (Tryz.strings_Split b ⟨#[44]⟩ m w (by omega) hm (by decide)).mono ?_
  rintro e w' ⟨rfl, rfl⟩
  have hc : Lib.countB b ⟨#[44]⟩ + 1 = ws.length := by
    show Lib.count b.data.toList [44] + 1 = _
    rw [hb]; exact hj.1
  have hs : (Lib.splitB ⟨#[44]⟩ 0 (Lib.countB b ⟨#[44]⟩) b).map (·.data.toList) = ws := by
    rw [Lib.splitB_data]
    show Lib.splitK [44] 0 (Lib.count b.data.toList [44]) b.data.toList = ws
    rw [hb]; exact hj.2
  rw [hc]
  refine ⟨_, rfl, fun j hj => ?_, Fr.alloc (Fr.refl _ _) _⟩
  obtain ⟨L, hL⟩ : ∃ L, L = Lib.splitB ⟨#[44]⟩ 0 (Lib.countB b ⟨#[44]⟩) b := ⟨_, rfl⟩
  rw [← hL] at hs ⊢
  subst hs
  have hjL : j < L.length := by simpa using hj
  refine ⟨L[j], ?_, by simp⟩
  rw [cell_of_row _ w.heap.size j _ 9 (0, 0) (heap_alloc_new w _)]
  simp [hjL]

theorem arcsT_len (x : Kn.Cr) : (Tx.arcsT x).length = 4 := rfl
theorem arcsT_comma {x : Kn.Cr} (h : Tx.InC x) : ∀ u ∈ Tx.arcsT x, (44 : UInt8) ∉ u := fun u hu => by
  obtain ⟨n, hn, rfl⟩ := Tx.mem_arcsT h hu
  exact (Tx.dd_is hn).comma
theorem ext_data (b : ByteArray) (i j : Nat) : (b.extract i j).data.toList = (b.data.toList.drop i).take (j - i) := by
  rw [ByteArray.data_extract, Array.toList_extract, List.extract_eq_take_drop]
theorem mid_data {b : ByteArray} {x : Kn.Cr} (hb : b.data.toList = Tx.crT x) : (b.extract 3 (b.size - 1)).data.toList = Tx.joinW 44 (Tx.arcsT x) := by
  rw [ext_data, Lib.size_eq, hb, ← Tx.crT_mid x, show (Tx.crT x).length - 1 - 3 = (Tx.crT x).length - 4 by omega]
/- the numbers read so far -/
def arcN4 (x : Kn.Cr) (j : Nat) : Int := if j = 0 then x.a else if j = 1 then x.b else if j = 2 then x.c else x.d
def got4 (x : Kn.Cr) (k : Nat) (j : Nat) : Value := .int .i64 (if j < k then arcN4 x j else 0)
theorem arcsT_at {x : Kn.Cr} (h : Tx.InC x) {j : Nat} (hj : j < 4) : ∃ n : Nat, n ≤ 32 ∧ (n : Int) = arcN4 x j ∧ (Tx.arcsT x)[j]'(by rw [arcsT_len]; exact hj) = Tx.dd n := by
  unfold arcN4
  match j, hj with
  | 0, _ => exact ⟨_, h.a.nat.1, h.a.nat.2, rfl⟩
  | 1, _ => exact ⟨_, h.b.nat.1, h.b.nat.2, rfl⟩
  | 2, _ => exact ⟨_, h.c.nat.1, h.c.nat.2, rfl⟩
  | 3, _ => exact ⟨_, h.d.nat.1, h.d.nat.2, rfl⟩
structure CrI (w wr : World) (x : Kn.Cr) (a B : Nat) (k : Nat) : Prop where
  new : New w wr
  res : wr.heap[w.heap.size]? = some (.cells #[.int .i64 0, .int .i64 0, .int .i64 0, .int .i64 0, .bool false] 33 (0, 0))
  ws : WordsAt wr a (Tx.arcsT x)
  lb : w.heap.size < B
  row : wr.rowIs B 61 4 (got4 x k)
  ne : a ≠ B
theorem CrI.nw {w wr wx : World} {x : Kn.Cr} {a B k : Nat} (h : CrI w wr x a B k) (hf : New wr wx) : CrI w wx x a B k := ⟨h.new.trans hf, hf.blk h.res fun x => x, hf.words h.ws, h.lb, hf.row h.row fun x => x, h.ne⟩
theorem CrI.put {w wr : World} {x : Kn.Cr} {a B k : Nat} (h : CrI w wr x a B k) (hk : k < 4) {v : Int} (hv : v = arcN4 x k) : CrI w (wr.setCell ⟨B, k, none⟩ (.int .i64 v)) x a B (k + 1) := by
  have hF : Fr (fun j => j = B) wr (wr.setCell ⟨B, k, none⟩ (.int .i64 v)) := Fr.setCell (S := fun j => j = B) (Fr.refl _ wr) (a := ⟨B, k, none⟩) (.inl rfl) _
  have hl := h.lb
  refine ⟨h.new.next hF fun i hi => .inr (by omega), hF.blk h.res (by omega), fun j hj => ?_, h.lb, rowIs_congr (h.row.set k (.int .i64 v)) fun j _ => ?_, h.ne⟩
  · obtain ⟨y, h1, h2⟩ := h.ws j hj
    exact ⟨y, hF.cell h1 h.ne, h2⟩
  · unfold got4
    by_cases e : j = k
    · subst e; rw [if_pos (by omega), if_pos rfl, hv]
    · rw [if_neg e]
      by_cases e2 : j < k
      · rw [if_pos (by omega), if_pos e2]
      · rw [if_neg (by omega), if_neg e2]
theorem made61 (w : World) (x : Kn.Cr) : (w.alloc (.cells #[.int .i64 0, .int .i64 0, .int .i64 0, .int .i64 0] 61)).rowIs w.heap.size 61 4 (got4 x 0) :=
  ⟨_, heap_alloc_new _ _, rfl, fun i hi => by
    match i, hi with
    | 0, _ => rfl
    | 1, _ => rfl
    | 2, _ => rfl
    | 3, _ => rfl⟩
theorem cr5_c {W : World} {B t : Nat} {a b c d e : Value} (h : W.heap[B]? = some (.cells #[a, b, c, d, e] t (0, 0))) :
    W.cell? ⟨B, 0, none⟩ = some a ∧ W.cell? ⟨B, 1, none⟩ = some b ∧ W.cell? ⟨B, 2, none⟩ = some c ∧ W.cell? ⟨B, 3, none⟩ = some d ∧ W.cell? ⟨B, 4, none⟩ = some e ∧
    W.frozen? ⟨B, 0, none⟩ = false ∧ W.frozen? ⟨B, 1, none⟩ = false ∧ W.frozen? ⟨B, 2, none⟩ = false ∧ W.frozen? ⟨B, 3, none⟩ = false ∧ W.frozen? ⟨B, 4, none⟩ = false := by
  refine ⟨cell_of_row _ _ 0 _ t (0, 0) h, cell_of_row _ _ 1 _ t (0, 0) h, cell_of_row _ _ 2 _ t (0, 0) h, cell_of_row _ _ 3 _ t (0, 0) h, cell_of_row _ _ 4 _ t (0, 0) h, ?_, ?_, ?_, ?_, ?_⟩ <;> simp [World.frozen?, h]
theorem cr5_set {W : World} {B t : Nat} {a b c d e : Value} (h : W.heap[B]? = some (.cells #[a, b, c, d, e] t (0, 0))) (a' b' c' d' e' : Value) :
    (((((W.setCell ⟨B, 0, none⟩ a').setCell ⟨B, 1, none⟩ b').setCell ⟨B, 2, none⟩ c').setCell ⟨B, 3, none⟩ d').setCell ⟨B, 4, none⟩ e').heap[B]? = some (.cells #[a', b', c', d', e'] t (0, 0)) := by
  unfold World.setCell; simp [Array.getElem?_modify, h]
theorem cr5_fr (W : World) (B : Nat) (a b c d e : Value) : Fr (fun k => k = B) W (((((W.setCell ⟨B, 0, none⟩ a).setCell ⟨B, 1, none⟩ b).setCell ⟨B, 2, none⟩ c).setCell ⟨B, 3, none⟩ d).setCell ⟨B, 4, none⟩ e) :=
  (((((Fr.refl (fun k => k = B) W).setCell (a := ⟨B, 0, none⟩) (.inl rfl) _).setCell (a := ⟨B, 1, none⟩) (.inl rfl) _).setCell (a := ⟨B, 2, none⟩) (.inl rfl) _).setCell (a := ⟨B, 3, none⟩) (.inl rfl) _).setCell (a := ⟨B, 4, none⟩) (.inl rfl) _
set_option maxRecDepth 100000 in
set_option maxHeartbeats 4000000 in
theorem cross_any (x : Kn.Cr) (h : Tx.InC x) (b : ByteArray) (hb : b.data.toList = Tx.crT x) (w : World) (he : Env w) :
    Calls Tryz.prog 19 #[.string b] w fun e w' => e = .returned (.tuple #[crV x, .bool true]) ∧ New w w' := by
  have HC := Lib.hid h
  have HB := Lib.hid hb
  have HE := Lib.hid he
  have hlen := Tx.crT_len h
  have hsz : b.size = (Tx.crT x).length := by rw [Lib.size_eq, hb]
  have hs1 : (4 : Int) ≤ (b.size : Int) := by rw [hsz]; simp [Tx.crT, Tx.headT]; omega
  have hs2 : (b.size : Int) ≤ 16 := by omega
  have HS := Lib.hid (suffix_any b ⟨#[93]⟩ _ _ true hb (by omega) rfl (Tx.crT_end _))
  have HSP := Lib.hid fun wz (hz : Env wz) => split_any (b.extract 3 (b.size - 1)) (Tx.arcsT x) (mid_data hb) (by unfold Tx.arcsT; simp) (arcsT_comma h) (by rw [Lib.size_eq, mid_data hb]; have := Tx.joinW_len 44 (Tx.arcsT x) 2 (fun w hw => by obtain ⟨n, hn, rfl⟩ := Tx.mem_arcsT h hw; exact (Tx.dd_is hn).len); rw [arcsT_len] at this; omega) wz hz
  obtain ⟨X, HX⟩ : ∃ X, Hid (X = x) := ⟨_, Lib.hid rfl⟩
  rw [← HX.out] at HC HSP ⊢
  have HXP : Hid (X.p = x.p) := Lib.hid (by rw [HX.out])
  obtain ⟨xp, hxp⟩ : ∃ p, p = x.p := ⟨_, rfl⟩
  rw [← hxp] at HXP
  have HP := Lib.hid (prefix_any b ⟨#[88, 43, 91]⟩ _ _ xp HB.out rfl (by rw [Tx.crT_plus, hxp]))
  have HQ := Lib.hid (prefix_any b ⟨#[88, 45, 91]⟩ _ _ (!xp) HB.out rfl (by rw [Tx.crT_minus, hxp]))
  clear h hb he hlen hsz hxp
  have hN0 : New w (w.alloc (.cells #[.int .i64 0, .int .i64 0, .int .i64 0, .int .i64 0, .bool false] 33)) := (Fr.refl _ w).alloc _
  have HE0 := Lib.hid (New.env hN0 HE.out)
  have HR0 := Lib.hid (heap_alloc_new w (.cells #[.int .i64 0, .int .i64 0, .int .i64 0, .int .i64 0, .bool false] 33))
  have HN0 := Lib.hid hN0
  clear hN0
  cases xp
  · go_enter Tryz.func19, Tryz.ntmps19
    go_wp2_with fail
    refine (HP.out _).mono ?_
    rintro e w1 ⟨rfl, rfl⟩
    go_wp2_with fail
    refine (HQ.out _).mono ?_
    rintro e w1 ⟨rfl, rfl⟩
    go_wp2_with fail
    refine (HS.out _).mono ?_
    rintro e w1 ⟨rfl, rfl⟩
    go_wp2_with fail
    refine (HSP.out _ HE0.out).mono ?_
    rintro e w2 ⟨a, rfl, hws, hF⟩
    rw [arcsT_len]
    have HWS := Lib.hid hws
    have HF := Lib.hid hF
    clear hws hF
    have HI0 : Hid (CrI w (w2.alloc (.cells #[.int .i64 0, .int .i64 0, .int .i64 0, .int .i64 0] 61)) X a w2.heap.size 0) := Lib.hid (by
      have hf : New w2 (w2.alloc (.cells #[.int .i64 0, .int .i64 0, .int .i64 0, .int .i64 0] 61)) := (Fr.refl _ w2).alloc _
      have hr := HF.out.blk HR0.out fun x => x
      have hlt := (Array.getElem?_eq_some_iff.1 hr).1
      obtain ⟨y, hy, _⟩ := HWS.out 0 (by rw [arcsT_len]; omega)
      have hal := World.block_lt_of_cell? w2 _ hy
      exact ⟨(HN0.out.trans HF.out).trans hf, hf.blk hr fun x => x, hf.words HWS.out, hlt, made61 w2 X, by simp only at hal; omega⟩)
    go_wp2
    obtain ⟨B, HBB⟩ : ∃ B, Hid (B = w2.heap.size) := ⟨_, Lib.hid rfl⟩
    rw [← HBB.out] at HI0 ⊢
    go_loopw [38] (fun i wr => ∃ k : Nat, k ≤ 4 ∧ i = .int .i64 k ∧ Hid (CrI w wr X a B k)) (fun i _ => 4 - (intOf i).toNat)
    case atStart => exact ⟨0, by omega, rfl, HI0⟩
    case round =>
      obtain ⟨k, hk, rfl, HI⟩ := hrel
      by_cases hk4 : k < 4
      · obtain ⟨n, hn, hna, hnt⟩ := arcsT_at HC.out hk4
        obtain ⟨y, hy1, hy2⟩ := HI.out.ws k (by rw [arcsT_len]; exact hk4)
        rw [hnt] at hy2
        have HY := Lib.hid hy2
        have HNA := Lib.hid hna
        have i1 : (0 : Int) ≤ (k : Int) := by omega
        have i2 : (k : Int) < 4 := by omega
        clear hna hnt hy2
        go_wp2_with fail
        refine (number_any n hn y HY.out _).mono ?_
        rintro e w3 ⟨rfl, hN⟩
        have HI3 := Lib.hid (HI.out.nw hN)
        have hrc := HI3.out.row.cell (i := k) hk4
        have hrf := HI3.out.row.frozen k
        simp only [got4] at hrc
        clear hN hy1
        go_wp2
        go_roundw
        case rel => exact ⟨k + 1, by omega, by go_num, Lib.hid (HI3.out.put hk4 HNA.out)⟩
        case measure => simp [intOf]; omega
      · obtain rfl : k = 4 := by omega
        have r0 := HI.out.row.cell (i := 0) (by omega)
        have r1 := HI.out.row.cell (i := 1) (by omega)
        have r2 := HI.out.row.cell (i := 2) (by omega)
        have r3 := HI.out.row.cell (i := 3) (by omega)
        simp only [got4, arcN4, show (0 : Nat) < 4 by omega, show (1 : Nat) < 4 by omega, show (2 : Nat) < 4 by omega, show (3 : Nat) < 4 by omega, if_true, show ¬ (1 : Nat) = 0 by omega, show ¬ (2 : Nat) = 0 by omega, show ¬ (3 : Nat) = 0 by omega, show ¬ (2 : Nat) = 1 by omega, show ¬ (3 : Nat) = 1 by omega, show ¬ (3 : Nat) = 2 by omega, if_false] at r0 r1 r2 r3
        obtain ⟨xa, HXa⟩ : ∃ v, Hid (v = X.a) := ⟨_, Lib.hid rfl⟩
        obtain ⟨xb, HXb⟩ : ∃ v, Hid (v = X.b) := ⟨_, Lib.hid rfl⟩
        obtain ⟨xc, HXc⟩ : ∃ v, Hid (v = X.c) := ⟨_, Lib.hid rfl⟩
        obtain ⟨xd, HXd⟩ : ∃ v, Hid (v = X.d) := ⟨_, Lib.hid rfl⟩
        rw [← HXa.out] at r0
        rw [← HXb.out] at r1
        rw [← HXc.out] at r2
        rw [← HXd.out] at r3
        obtain ⟨q1, q2, q3, q4, q5, q6, q7, q8, q9, q10⟩ := cr5_c HI.out.res
        go_wp2
        have he := cr5_set HI.out.res (.int .i64 xa) (.int .i64 xb) (.int .i64 xc) (.int .i64 xd) (.bool false)
        have HFE := Lib.hid (HI.out.new.next (cr5_fr wr w.heap.size (.int .i64 xa) (.int .i64 xb) (.int .i64 xc) (.int .i64 xd) (.bool false)) fun i hi => .inr (by omega))
        obtain ⟨y1, y2, y3, y4, y5, _⟩ := cr5_c he
        have HV : Hid (crV X = .agg #[.int .i64 xa, .int .i64 xb, .int .i64 xc, .int .i64 xd, .bool false]) := Lib.hid (by rw [HXa.out, HXb.out, HXc.out, HXd.out, ← HXP.out])
        refine bodyPost_ret (v := .tuple #[.agg #[.int .i64 xa, .int .i64 xb, .int .i64 xc, .int .i64 xd, .bool false], .bool true]) ?_ rfl ?_
        · simp [results, Tryz.results19, go_sem, y1, y2, y3, y4, y5]
        · exact ⟨by rw [HV.out], HFE.out⟩
  · go_enter Tryz.func19, Tryz.ntmps19
    go_wp2_with fail
    refine (HP.out _).mono ?_
    rintro e w1 ⟨rfl, rfl⟩
    go_wp2_with fail
    refine (HS.out _).mono ?_
    rintro e w1 ⟨rfl, rfl⟩
    go_wp2_with fail
    refine (HSP.out _ HE0.out).mono ?_
    rintro e w2 ⟨a, rfl, hws, hF⟩
    rw [arcsT_len]
    have HWS := Lib.hid hws
    have HF := Lib.hid hF
    clear hws hF
    have HI0 : Hid (CrI w (w2.alloc (.cells #[.int .i64 0, .int .i64 0, .int .i64 0, .int .i64 0] 61)) X a w2.heap.size 0) := Lib.hid (by
      have hf : New w2 (w2.alloc (.cells #[.int .i64 0, .int .i64 0, .int .i64 0, .int .i64 0] 61)) := (Fr.refl _ w2).alloc _
      have hr := HF.out.blk HR0.out fun x => x
      have hlt := (Array.getElem?_eq_some_iff.1 hr).1
      obtain ⟨y, hy, _⟩ := HWS.out 0 (by rw [arcsT_len]; omega)
      have hal := World.block_lt_of_cell? w2 _ hy
      exact ⟨(HN0.out.trans HF.out).trans hf, hf.blk hr fun x => x, hf.words HWS.out, hlt, made61 w2 X, by simp only at hal; omega⟩)
    go_wp2
    obtain ⟨B, HBB⟩ : ∃ B, Hid (B = w2.heap.size) := ⟨_, Lib.hid rfl⟩
    rw [← HBB.out] at HI0 ⊢
    go_loopw [38] (fun i wr => ∃ k : Nat, k ≤ 4 ∧ i = .int .i64 k ∧ Hid (CrI w wr X a B k)) (fun i _ => 4 - (intOf i).toNat)
    case atStart => exact ⟨0, by omega, rfl, HI0⟩
    case round =>
      obtain ⟨k, hk, rfl, HI⟩ := hrel
      by_cases hk4 : k < 4
      · obtain ⟨n, hn, hna, hnt⟩ := arcsT_at HC.out hk4
        obtain ⟨y, hy1, hy2⟩ := HI.out.ws k (by rw [arcsT_len]; exact hk4)
        rw [hnt] at hy2
        have HY := Lib.hid hy2
        have HNA := Lib.hid hna
        have i1 : (0 : Int) ≤ (k : Int) := by omega
        have i2 : (k : Int) < 4 := by omega
        clear hna hnt hy2
        go_wp2_with fail
        refine (number_any n hn y HY.out _).mono ?_
        rintro e w3 ⟨rfl, hN⟩
        have HI3 := Lib.hid (HI.out.nw hN)
        have hrc := HI3.out.row.cell (i := k) hk4
        have hrf := HI3.out.row.frozen k
        simp only [got4] at hrc
        clear hN hy1
        go_wp2
        go_roundw
        case rel => exact ⟨k + 1, by omega, by go_num, Lib.hid (HI3.out.put hk4 HNA.out)⟩
        case measure => simp [intOf]; omega
      · obtain rfl : k = 4 := by omega
        have r0 := HI.out.row.cell (i := 0) (by omega)
        have r1 := HI.out.row.cell (i := 1) (by omega)
        have r2 := HI.out.row.cell (i := 2) (by omega)
        have r3 := HI.out.row.cell (i := 3) (by omega)
        simp only [got4, arcN4, show (0 : Nat) < 4 by omega, show (1 : Nat) < 4 by omega, show (2 : Nat) < 4 by omega, show (3 : Nat) < 4 by omega, if_true, show ¬ (1 : Nat) = 0 by omega, show ¬ (2 : Nat) = 0 by omega, show ¬ (3 : Nat) = 0 by omega, show ¬ (2 : Nat) = 1 by omega, show ¬ (3 : Nat) = 1 by omega, show ¬ (3 : Nat) = 2 by omega, if_false] at r0 r1 r2 r3
        obtain ⟨xa, HXa⟩ : ∃ v, Hid (v = X.a) := ⟨_, Lib.hid rfl⟩
        obtain ⟨xb, HXb⟩ : ∃ v, Hid (v = X.b) := ⟨_, Lib.hid rfl⟩
        obtain ⟨xc, HXc⟩ : ∃ v, Hid (v = X.c) := ⟨_, Lib.hid rfl⟩
        obtain ⟨xd, HXd⟩ : ∃ v, Hid (v = X.d) := ⟨_, Lib.hid rfl⟩
        rw [← HXa.out] at r0
        rw [← HXb.out] at r1
        rw [← HXc.out] at r2
        rw [← HXd.out] at r3
        obtain ⟨q1, q2, q3, q4, q5, q6, q7, q8, q9, q10⟩ := cr5_c HI.out.res
        go_wp2
        have he := cr5_set HI.out.res (.int .i64 xa) (.int .i64 xb) (.int .i64 xc) (.int .i64 xd) (.bool true)
        have HFE := Lib.hid (HI.out.new.next (cr5_fr wr w.heap.size (.int .i64 xa) (.int .i64 xb) (.int .i64 xc) (.int .i64 xd) (.bool true)) fun i hi => .inr (by omega))
        obtain ⟨y1, y2, y3, y4, y5, _⟩ := cr5_c he
        have HV : Hid (crV X = .agg #[.int .i64 xa, .int .i64 xb, .int .i64 xc, .int .i64 xd, .bool true]) := Lib.hid (by rw [HXa.out, HXb.out, HXc.out, HXd.out, ← HXP.out])
        refine bodyPost_ret (v := .tuple #[.agg #[.int .i64 xa, .int .i64 xb, .int .i64 xc, .int .i64 xd, .bool true], .bool true]) ?_ rfl ?_
        · simp [results, Tryz.results19, go_sem, y1, y2, y3, y4, y5]
        · exact ⟨by rw [HV.out], HFE.out⟩
end Go.Proofs.YtgjmjbgicfkojaaGreatDoor
