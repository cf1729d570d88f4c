/- Walks: Mirror. -/
import Derived.Test.YtlicglicfijelaaW40
import Derived.Test.YtlicglicfijelaaN8
namespace Go.Proofs.Ytlicglicfijelaa
open Go.RowKit

theorem over_lt (p : Bool) : Kn.over p < 4 := by cases p <;> decide
theorem five_of {W : World} {B t : Nat} {a b c d e : Value} (h : W.heap[B]? = some (.cells #[a, b, c, d, e] t (0, 0))) :
    W.cell? ⟨B, 0, none⟩ = some a ∧ W.cell? ⟨B, 1, none⟩ = some b ∧ W.cell? ⟨B, 2, none⟩ = some c ∧ W.cell? ⟨B, 3, none⟩ = some d ∧ W.cell? ⟨B, 4, none⟩ = some e :=
  ⟨cell_of_row _ _ 0 _ t (0, 0) h, cell_of_row _ _ 1 _ t (0, 0) h, cell_of_row _ _ 2 _ t (0, 0) h, cell_of_row _ _ 3 _ t (0, 0) h, cell_of_row _ _ 4 _ t (0, 0) h⟩
/- crossings changed one behind the other -/
def mirTo (f : Kn.Cr → Kn.Cr) (X : List Kn.Cr) (k : Nat) : List Kn.Cr := (X.take k).map f ++ X.drop k
theorem mirTo_len (f : Kn.Cr → Kn.Cr) (X : List Kn.Cr) (k : Nat) : (mirTo f X k).length = X.length := by unfold mirTo; simp; omega
theorem mirTo_zero (f : Kn.Cr → Kn.Cr) (X : List Kn.Cr) : mirTo f X 0 = X := by unfold mirTo; simp
theorem mirTo_all (f : Kn.Cr → Kn.Cr) (X : List Kn.Cr) : mirTo f X X.length = X.map f := by unfold mirTo; simp
theorem mirTo_cr {f : Kn.Cr → Kn.Cr} {X : List Kn.Cr} {k : Nat} (hk : k < X.length) : Kn.cr (mirTo f X k) k = Kn.cr X k := by
  unfold Kn.cr mirTo
  rw [List.getD_eq_getElem?_getD, List.getD_eq_getElem?_getD, List.getElem?_append_right (by simp; omega)]
  congr 1
  rw [List.length_map, List.length_take, List.getElem?_drop]
  congr 1; omega
theorem mirTo_succ {f : Kn.Cr → Kn.Cr} {X : List Kn.Cr} {k : Nat} (hk : k < X.length) : (mirTo f X k).set k (f (Kn.cr X k)) = mirTo f X (k + 1) := by
  have e : X[k] = Kn.cr X k := by unfold Kn.cr; rw [List.getD_eq_getElem?_getD, List.getElem?_eq_getElem hk]; rfl
  unfold mirTo
  rw [List.take_succ_eq_append_getElem hk, List.drop_eq_getElem_cons hk, List.set_append_right _ _ (by simp; omega)]
  rw [List.length_map, List.length_take, show k - min k X.length = 0 by omega, List.set_cons_zero, e]
  simp
/- a shape whose crossings are changed in place; and the result's cell -/
structure MI (w wr : World) (rb b : Nat) (v : Value) (L : Int) (cs : Array Value) (base : Nat) (Y : List Kn.Cr) : Prop where
  new : New w wr
  blk : wr.heap[b]? = some (.cells cs 47 (0, 0))
  own : wr.ownsRow base 58 5 v Y.length (crCells Y)
  lb : w.heap.size ≤ base
  res : wr.heap[rb]? = some (.cells #[.slice none 0 0, .int .i64 0] 24 (0, 0))
  lr : w.heap.size ≤ rb
section
variable {w wr w' : World} {rb b : Nat} {v : Value} {L : Int} {cs : Array Value} {base : Nat} {Y : List Kn.Cr}
theorem MI.nw (h : MI w wr rb b v L cs base Y) (hf : New wr w') : MI w w' rb b v L cs base Y :=
  ⟨h.new.trans hf, hf.blk h.blk fun x => x, hf.owns h.own fun _ _ x => x, h.lb, hf.blk h.res fun x => x, h.lr⟩
theorem MI.put {g c n k : Nat} {x : Kn.Cr} (h : MI w wr rb b (.slice (some ⟨g, 0, none⟩) n c) L cs base Y) (hn : n = Y.length) (hk : k < Y.length) : MI w (set5 wr g k x.a x.b x.c x.d x.p) rb b (.slice (some ⟨g, 0, none⟩) n c) L cs base (Y.set k x) := by
  subst hn
  have e : (Value.slice (some ⟨g, 0, none⟩) Y.length c).ownBlock = some g := rfl
  have hF := fr_set5 wr g k x.a x.b x.c x.d x.p
  refine ⟨h.new.next hF fun i hi => .inr (by have := own_lb h.own g e; have := h.lb; omega), hF.blk h.blk (fun hB => blk_not_own h.blk h.own (by decide) (by rw [e, hB])), ?_, h.lb, hF.blk h.res (fun hB => blk_not_own h.res h.own (by decide) (by rw [e, hB])), h.lr⟩
  rw [List.length_set]
  exact own_set5 h.own hk x
end
/- a new crossing behind an assignment -/
def NewCr (w2 : World) (ya yb yc yd : Int) (p : Bool) (s8 : Value) (wx : World) : Prop := ∃ B8, s8 = .pointer (some ⟨B8, 0, none⟩) ∧ w2.heap.size ≤ B8 ∧ New w2 wx ∧ wx.heap[B8]? = some (.cells #[.int .i64 ya, .int .i64 yb, .int .i64 yc, .int .i64 yd, .bool p] 58 (0, 0))
def GaveMir (X : List Kn.Cr) (L : Int) (w : World) (e : Ending) (w' : World) : Prop :=
  ∃ sc, e = .returned (.tuple #[.agg #[sc, .int .i64 L], .int .i64 0]) ∧ w'.ownsRow w.heap.size 58 5 sc X.length (crCells X) ∧ New w w'
theorem MI.gave {w wr : World} {b : Nat} {v : Value} {L : Int} {cs : Array Value} {base : Nat} {Y : List Kn.Cr} (h : MI w wr (w.heap.size + 1) b v L cs base Y) :
    GaveMir Y L w (.returned (.tuple #[.agg #[v, .int .i64 L], .int .i64 0])) ((wr.setCell ⟨w.heap.size + 1, 0, none⟩ v).setCell ⟨w.heap.size + 1, 1, none⟩ (.int .i64 L)) := by
  have hF : Fr (fun k => k = w.heap.size + 1) wr ((wr.setCell ⟨w.heap.size + 1, 0, none⟩ v).setCell ⟨w.heap.size + 1, 1, none⟩ (.int .i64 L)) := by refine Fr.setCell (Fr.setCell (Fr.refl _ wr) ?_ _) ?_ _ <;> exact .inl rfl
  exact ⟨v, rfl, own_base (hF.owns h.own fun k hk e => blk_not_own h.res h.own (by decide) (e ▸ hk)) h.lb, h.new.next hF fun i hi => .inr (by omega)⟩
set_option maxRecDepth 100000 in
set_option maxHeartbeats 8000000 in
theorem mirror_any (a : Option Addr) (n c : Nat) (X : List Kn.Cr) (L : Int) (w : World) (hx : CrsAt w a X) (hn : n = X.length) (lx : n ≤ 9223372036854775807) (l1 : -9223372036854775808 ≤ L) (l2 : L ≤ 9223372036854775807) (hm : Kn.mayB X L = true) :
    Calls Try.prog 6 #[.agg #[.slice a n c, .int .i64 L]] w (GaveMir (Kn.mirL X) L w) := by
  have HN := Lib.hid hn
  have HX := Lib.hid hx
  have HM := Lib.hid hm
  have hn16 : n ≤ 16 := by have := (mayB_ok hm).2; omega
  clear hx hn hm
  go_enter Try.func6, Try.ntmps6
  go_wp2_with fail
  have HN0 : Hid (New w ((w.alloc (.cells #[.slice a n c, .int .i64 L] 24)).alloc (.cells #[.slice none 0 0, .int .i64 0] 24))) := Lib.hid (((Fr.refl _ w).alloc _).alloc _)
  have HRS : Hid (((w.alloc (.cells #[.slice a n c, .int .i64 L] 24)).alloc (.cells #[.slice none 0 0, .int .i64 0] 24)).heap[w.heap.size + 1]? = some (.cells #[.slice none 0 0, .int .i64 0] 24 (0, 0))) := Lib.hid (by have := heap_alloc_new (w.alloc (.cells #[.slice a n c, .int .i64 L] 24)) (.cells #[.slice none 0 0, .int .i64 0] 24); rwa [World.size_alloc] at this)
  refine (new_any a n c X L _ (New.crs HN0.out HX.out) HN.out lx l1 l2).mono ?_
  rintro e w1 ⟨hF, h5⟩
  obtain ⟨_, b, rfl, _, _, v, bi, bo, base, hsh, hbs⟩ := h5.resolve_right (fun h => by have h1 := h.1; rw [HM.out] at h1; cases h1)
  obtain ⟨cs, HCS⟩ : ∃ cs, Hid (cs = shCells v L bi bo (mArcs X)) := ⟨_, Lib.hid rfl⟩
  have HI0 : Hid (MI w w1 (w.heap.size + 1) b v L cs base (mirTo Kn.mirC X 0)) := Lib.hid ⟨HN0.out.trans hF, by rw [HCS.out]; exact hsh.blk, by rw [mirTo_zero]; exact hsh.own, by have := HN0.out.size; omega, hF.blk HRS.out fun x => x, by omega⟩
  obtain ⟨s0, s1, _, _⟩ := hsh.c2
  obtain ⟨a1, c1, rfl, _⟩ := own_shape2 hsh.own
  rw [← HN.out] at s0 HI0 HCS
  clear hF h5 hsh hbs
  go_wp2
  clear s0 s1
  go_loopw [23] (fun i wr => ∃ k : Nat, k ≤ n ∧ i = .int .i64 k ∧ Hid (MI w wr (w.heap.size + 1) b (.slice a1 n c1) L cs base (mirTo Kn.mirC X k))) (fun i _ => n - (intOf i).toNat)
  case atStart => exact ⟨0, by omega, rfl, HI0⟩
  case round =>
    obtain ⟨k, hk, rfl, HI⟩ := hrel
    by_cases hkn : k < n
    · have hkX : k < X.length := by have := HN.out; omega
      obtain ⟨g, cg, e0⟩ : ∃ g cg, Value.slice a1 n c1 = .slice (some ⟨g, 0, none⟩) n cg := by
        have := HI.out.own
        rw [mirTo_len, ← HN.out] at this
        rcases this.2 with ⟨_, h0'⟩ | ⟨g, cap, cur, e, _⟩
        · omega
        · exact ⟨g, cap, e⟩
      cases e0
      have hown := HI.out.own
      rw [mirTo_len, ← HN.out] at hown
      have hx5 := own_five hown (by rw [mirTo_len]; exact HN.out) (j := k) (by rw [mirTo_len]; exact hkX)
      rw [mirTo_cr hkX] at hx5
      obtain ⟨xa, xb, xc, xd, xp, HXC⟩ := Kn.cr_parts' X k
      rw [HXC.out] at hx5
      obtain ⟨x1, x2, x3, x4, x5⟩ := hx5
      obtain ⟨ya, yb, yc, yd, HYE⟩ : ∃ ya yb yc yd, Hid (crV (Kn.turnC ⟨xa, xb, xc, xd, xp⟩ (Kn.over xp)) = .agg #[.int .i64 ya, .int .i64 yb, .int .i64 yc, .int .i64 yd, .bool xp]) := ⟨_, _, _, _, Lib.hid rfl⟩
      have i1 : (0 : Int) ≤ (k : Int) := by omega
      have i2 : (k : Int) < (n : Int) := by omega
      clear hown
      go_wp2
      clear x1 x2 x3 x4 x5
      obtain ⟨w2, HW2⟩ : ∃ w2, Hid (w2 = wr.alloc (.cells #[.int .i64 xa, .int .i64 xb, .int .i64 xc, .int .i64 xd, .bool xp] 58)) := ⟨_, Lib.hid rfl⟩
      obtain ⟨B7, HB⟩ : ∃ B, Hid (B = wr.heap.size) := ⟨_, Lib.hid rfl⟩
      rw [← HW2.out, ← HB.out]
      have HB7 : Hid (w2.heap[B7]? = some (.cells #[.int .i64 xa, .int .i64 xb, .int .i64 xc, .int .i64 xd, .bool xp] 58 (0, 0))) := Lib.hid (by rw [HW2.out, HB.out]; exact heap_alloc_new _ _)
      have HI2 : Hid (MI w w2 (w.heap.size + 1) b (.slice (some ⟨g, 0, none⟩) n c1) L cs base (mirTo Kn.mirC X k)) := Lib.hid (by rw [HW2.out]; exact HI.out.nw ((Fr.refl _ wr).alloc _))
      go_cut [8] (fun s8 wx => Hid (NewCr w2 ya yb yc yd xp s8 wx))
      case first =>
        have hS0 := five_of (show w2.drew.heap[B7]? = _ from HB7.out)
        have HF0 : Hid (New w2 w2.drew) := Lib.hid (Fr.refl _ w2).drew
        refine wp_region_held_drew (S := fun wz => wz.cell? ⟨B7, 0, none⟩ = some (.int .i64 xa) ∧ wz.cell? ⟨B7, 1, none⟩ = some (.int .i64 xb) ∧ wz.cell? ⟨B7, 2, none⟩ = some (.int .i64 xc) ∧ wz.cell? ⟨B7, 3, none⟩ = some (.int .i64 xd) ∧ wz.cell? ⟨B7, 4, none⟩ = some (.bool xp)) (by kernel_rfl) hS0 (fun hHeld => ?_)
        clear hS0
        generalize w2.drew = r0 at hHeld HF0 ⊢
        -- BEGIN7
        refine' wpAnyH_take (i := 0) (v := _) rfl (by kernel_rfl) (by kernel_rfl) (by kernel_rfl) (fun _ _ _ h => h) (Or.inl ⟨by rfl, ?hyA⟩) (by assumption) ?restA
        case hyA => (intro w' hSw; (try dsimp only at hSw); go_simp <;> with_reducible rfl)
        case restA =>
        simp only [Act.put, List.getElem_toArray, List.getElem_cons_zero, List.setIfInBounds_toArray, List.set_cons_zero, List.set_cons_succ]
        refine' wpAnyH_take (i := 1) (v := _) rfl (by kernel_rfl) (by kernel_rfl) (by kernel_rfl) (fun _ _ _ h => h) (Or.inl ⟨by rfl, ?hyA⟩) (by assumption) ?restA
        case hyA => (intro w' hSw; (try dsimp only at hSw); go_simp <;> with_reducible rfl)
        case restA =>
        simp only [Act.put, List.getElem_toArray, List.getElem_cons_zero, List.getElem_cons_succ, List.setIfInBounds_toArray, List.set_cons_zero, List.set_cons_succ]
        refine wpAnyH_ready (rs := [2, 4]) (by kernel_rfl) (by simp) ?_
        refine AllReadyH.cons rfl (fun K hK => ?_) (AllReadyH.cons rfl (fun K hK => ?_) AllReadyH.nil)
        · skip
          (try simp only [List.getElem_toArray, List.getElem_cons_zero, List.getElem_cons_succ])
          go_simp
          refine (overIn_any xa xb xc xd xp _).mono ?_
          rintro e r1 ⟨rfl, hF⟩
          have HF1 : Hid (New w2 r1) := Lib.hid (HF0.out.trans hF)
          clear hF
          go_wp2_with fail
          refine hK.out _ _ (five_of (HF1.out.blk HB7.out fun x => x)) (fun hHeld => ?_)
          clear hK K
          (try simp only [Act.put, List.getElem_toArray, List.getElem_cons_zero, List.getElem_cons_succ, List.setIfInBounds_toArray, List.set_cons_zero, List.set_cons_succ])
          refine wpAnyH_ready (rs := [3, 4]) (by kernel_rfl) (by simp) ?_
          refine AllReadyH.cons rfl (fun K hK => ?_) (AllReadyH.cons rfl (fun K hK => ?_) AllReadyH.nil)
          · skip
            (try simp only [List.getElem_toArray, List.getElem_cons_zero, List.getElem_cons_succ])
            go_simp
            refine (turned_any xa xb xc xd xp (Kn.over xp) _ (over_lt xp)).mono ?_
            rintro e r2 ⟨rfl, hF⟩
            rw [HYE.out]
            have HF2 : Hid (New w2 r2) := Lib.hid (HF1.out.trans hF)
            clear hF
            go_wp2_with fail
            refine hK.out _ _ (five_of (HF2.out.blk HB7.out fun x => x)) (fun hHeld => ?_)
            clear hK K
            (try simp only [Act.put, List.getElem_toArray, List.getElem_cons_zero, List.getElem_cons_succ, List.setIfInBounds_toArray, List.set_cons_zero, List.set_cons_succ])
            refine wpAnyH_ready (rs := [4]) (by kernel_rfl) (by simp) ?_
            refine AllReadyH.cons rfl (fun K hK => ?_) AllReadyH.nil
            (try simp only [List.getElem_toArray, List.getElem_cons_zero, List.getElem_cons_succ])
            go_simp
            have HF3 : Hid (New w2 (r2.alloc (.cells #[.int .i64 0, .int .i64 0, .int .i64 0, .int .i64 0, .bool false] 58))) := Lib.hid (HF2.out.alloc _)
            have HZ3 := Lib.hid (heap_alloc_new r2 (.cells #[.int .i64 0, .int .i64 0, .int .i64 0, .int .i64 0, .bool false] 58))
            have hlt2 := HF2.out.size
            refine hK.out _ _ (five_of (HF3.out.blk HB7.out fun x => x)) (fun hHeld => ?_)
            clear hK K
            (try simp only [Act.put, List.getElem_toArray, List.getElem_cons_zero, List.getElem_cons_succ, List.setIfInBounds_toArray, List.set_cons_zero, List.set_cons_succ])
            obtain ⟨r3, hr3⟩ : ∃ r, r = r2.alloc (.cells #[.int .i64 0, .int .i64 0, .int .i64 0, .int .i64 0, .bool false] 58) := ⟨_, rfl⟩
            rw [← hr3] at HF3 HZ3 hHeld ⊢
            obtain ⟨B8, HB8⟩ : ∃ B, Hid (B = r2.heap.size) := ⟨_, Lib.hid rfl⟩
            rw [← HB8.out] at HZ3 ⊢
            have hB8 : w2.heap.size ≤ B8 := by rw [HB8.out]; exact hlt2
            clear hr3
            refine wpAnyH_ready (rs := [5]) (by kernel_rfl) (by simp) ?_
            refine AllReadyH.cons rfl (fun K hK => ?_) AllReadyH.nil
            (try simp only [List.getElem_toArray, List.getElem_cons_zero, List.getElem_cons_succ])
            obtain ⟨q1, q2, q3, q4, q5, q6, q7, q8, q9, q10⟩ := box5_c HZ3.out
            go_simp
            clear q1 q2 q3 q4 q5 q6 q7 q8 q9 q10
            have HE := Lib.hid (box5_set HZ3.out (.int .i64 ya) (.int .i64 yb) (.int .i64 yc) (.int .i64 yd) (.bool xp))
            have HFE := Lib.hid (HF3.out.next (fr5 r3 B8 (.int .i64 ya) (.int .i64 yb) (.int .i64 yc) (.int .i64 yd) (.bool xp)) fun i hi => .inr (by omega))
            refine hK.out _ _ (five_of (HFE.out.blk HB7.out fun x => x)) (fun hHeld => ?_)
            clear hK K
            (try simp only [Act.put, List.getElem_toArray, List.getElem_cons_zero, List.getElem_cons_succ, List.setIfInBounds_toArray, List.set_cons_zero, List.set_cons_succ])
            refine wpAnyH_done (by kernel_rfl) ?_ _
            go_wp2_with fail
            go_meet
            exact Lib.hid ⟨B8, rfl, hB8, HFE.out, HE.out⟩
          · skip
            (try simp only [List.getElem_toArray, List.getElem_cons_zero, List.getElem_cons_succ])
            go_simp
            have HF2 : Hid (New w2 (r1.alloc (.cells #[.int .i64 0, .int .i64 0, .int .i64 0, .int .i64 0, .bool false] 58))) := Lib.hid (HF1.out.alloc _)
            have HZ2 := Lib.hid (heap_alloc_new r1 (.cells #[.int .i64 0, .int .i64 0, .int .i64 0, .int .i64 0, .bool false] 58))
            have hlt1 := HF1.out.size
            refine hK.out _ _ (five_of (HF2.out.blk HB7.out fun x => x)) (fun hHeld => ?_)
            clear hK K
            (try simp only [Act.put, List.getElem_toArray, List.getElem_cons_zero, List.getElem_cons_succ, List.setIfInBounds_toArray, List.set_cons_zero, List.set_cons_succ])
            obtain ⟨r2, hr2⟩ : ∃ r, r = r1.alloc (.cells #[.int .i64 0, .int .i64 0, .int .i64 0, .int .i64 0, .bool false] 58) := ⟨_, rfl⟩
            rw [← hr2] at HF2 HZ2 hHeld ⊢
            obtain ⟨B8, HB8⟩ : ∃ B, Hid (B = r1.heap.size) := ⟨_, Lib.hid rfl⟩
            rw [← HB8.out] at HZ2 ⊢
            have hB8 : w2.heap.size ≤ B8 := by rw [HB8.out]; exact hlt1
            clear hr2
            refine wpAnyH_ready (rs := [3]) (by kernel_rfl) (by simp) ?_
            refine AllReadyH.cons rfl (fun K hK => ?_) AllReadyH.nil
            (try simp only [List.getElem_toArray, List.getElem_cons_zero, List.getElem_cons_succ])
            go_simp
            refine (turned_any xa xb xc xd xp (Kn.over xp) _ (over_lt xp)).mono ?_
            rintro e r3 ⟨rfl, hF⟩
            rw [HYE.out]
            have HF3 : Hid (New w2 r3) := Lib.hid (HF2.out.trans hF)
            have HZ3 := Lib.hid (hF.blk HZ2.out fun x => x)
            clear hF
            go_wp2_with fail
            refine hK.out _ _ (five_of (HF3.out.blk HB7.out fun x => x)) (fun hHeld => ?_)
            clear hK K
            (try simp only [Act.put, List.getElem_toArray, List.getElem_cons_zero, List.getElem_cons_succ, List.setIfInBounds_toArray, List.set_cons_zero, List.set_cons_succ])
            refine wpAnyH_ready (rs := [5]) (by kernel_rfl) (by simp) ?_
            refine AllReadyH.cons rfl (fun K hK => ?_) AllReadyH.nil
            (try simp only [List.getElem_toArray, List.getElem_cons_zero, List.getElem_cons_succ])
            obtain ⟨q1, q2, q3, q4, q5, q6, q7, q8, q9, q10⟩ := box5_c HZ3.out
            go_simp
            clear q1 q2 q3 q4 q5 q6 q7 q8 q9 q10
            have HE := Lib.hid (box5_set HZ3.out (.int .i64 ya) (.int .i64 yb) (.int .i64 yc) (.int .i64 yd) (.bool xp))
            have HFE := Lib.hid (HF3.out.next (fr5 r3 B8 (.int .i64 ya) (.int .i64 yb) (.int .i64 yc) (.int .i64 yd) (.bool xp)) fun i hi => .inr (by omega))
            refine hK.out _ _ (five_of (HFE.out.blk HB7.out fun x => x)) (fun hHeld => ?_)
            clear hK K
            (try simp only [Act.put, List.getElem_toArray, List.getElem_cons_zero, List.getElem_cons_succ, List.setIfInBounds_toArray, List.set_cons_zero, List.set_cons_succ])
            refine wpAnyH_done (by kernel_rfl) ?_ _
            go_wp2_with fail
            go_meet
            exact Lib.hid ⟨B8, rfl, hB8, HFE.out, HE.out⟩
        · skip
          (try simp only [List.getElem_toArray, List.getElem_cons_zero, List.getElem_cons_succ])
          go_simp
          have HF1 : Hid (New w2 (r0.alloc (.cells #[.int .i64 0, .int .i64 0, .int .i64 0, .int .i64 0, .bool false] 58))) := Lib.hid (HF0.out.alloc _)
          have HZ1 := Lib.hid (heap_alloc_new r0 (.cells #[.int .i64 0, .int .i64 0, .int .i64 0, .int .i64 0, .bool false] 58))
          have hlt0 := HF0.out.size
          refine hK.out _ _ (five_of (HF1.out.blk HB7.out fun x => x)) (fun hHeld => ?_)
          clear hK K
          (try simp only [Act.put, List.getElem_toArray, List.getElem_cons_zero, List.getElem_cons_succ, List.setIfInBounds_toArray, List.set_cons_zero, List.set_cons_succ])
          obtain ⟨r1, hr1⟩ : ∃ r, r = r0.alloc (.cells #[.int .i64 0, .int .i64 0, .int .i64 0, .int .i64 0, .bool false] 58) := ⟨_, rfl⟩
          rw [← hr1] at HF1 HZ1 hHeld ⊢
          obtain ⟨B8, HB8⟩ : ∃ B, Hid (B = r0.heap.size) := ⟨_, Lib.hid rfl⟩
          rw [← HB8.out] at HZ1 ⊢
          have hB8 : w2.heap.size ≤ B8 := by rw [HB8.out]; exact hlt0
          clear hr1
          refine wpAnyH_ready (rs := [2]) (by kernel_rfl) (by simp) ?_
          refine AllReadyH.cons rfl (fun K hK => ?_) AllReadyH.nil
          (try simp only [List.getElem_toArray, List.getElem_cons_zero, List.getElem_cons_succ])
          go_simp
          refine (overIn_any xa xb xc xd xp _).mono ?_
          rintro e r2 ⟨rfl, hF⟩
          have HF2 : Hid (New w2 r2) := Lib.hid (HF1.out.trans hF)
          have HZ2 := Lib.hid (hF.blk HZ1.out fun x => x)
          clear hF
          go_wp2_with fail
          refine hK.out _ _ (five_of (HF2.out.blk HB7.out fun x => x)) (fun hHeld => ?_)
          clear hK K
          (try simp only [Act.put, List.getElem_toArray, List.getElem_cons_zero, List.getElem_cons_succ, List.setIfInBounds_toArray, List.set_cons_zero, List.set_cons_succ])
          refine wpAnyH_ready (rs := [3]) (by kernel_rfl) (by simp) ?_
          refine AllReadyH.cons rfl (fun K hK => ?_) AllReadyH.nil
          (try simp only [List.getElem_toArray, List.getElem_cons_zero, List.getElem_cons_succ])
          go_simp
          refine (turned_any xa xb xc xd xp (Kn.over xp) _ (over_lt xp)).mono ?_
          rintro e r3 ⟨rfl, hF⟩
          rw [HYE.out]
          have HF3 : Hid (New w2 r3) := Lib.hid (HF2.out.trans hF)
          have HZ3 := Lib.hid (hF.blk HZ2.out fun x => x)
          clear hF
          go_wp2_with fail
          refine hK.out _ _ (five_of (HF3.out.blk HB7.out fun x => x)) (fun hHeld => ?_)
          clear hK K
          (try simp only [Act.put, List.getElem_toArray, List.getElem_cons_zero, List.getElem_cons_succ, List.setIfInBounds_toArray, List.set_cons_zero, List.set_cons_succ])
          refine wpAnyH_ready (rs := [5]) (by kernel_rfl) (by simp) ?_
          refine AllReadyH.cons rfl (fun K hK => ?_) AllReadyH.nil
          (try simp only [List.getElem_toArray, List.getElem_cons_zero, List.getElem_cons_succ])
          obtain ⟨q1, q2, q3, q4, q5, q6, q7, q8, q9, q10⟩ := box5_c HZ3.out
          go_simp
          clear q1 q2 q3 q4 q5 q6 q7 q8 q9 q10
          have HE := Lib.hid (box5_set HZ3.out (.int .i64 ya) (.int .i64 yb) (.int .i64 yc) (.int .i64 yd) (.bool xp))
          have HFE := Lib.hid (HF3.out.next (fr5 r3 B8 (.int .i64 ya) (.int .i64 yb) (.int .i64 yc) (.int .i64 yd) (.bool xp)) fun i hi => .inr (by omega))
          refine hK.out _ _ (five_of (HFE.out.blk HB7.out fun x => x)) (fun hHeld => ?_)
          clear hK K
          (try simp only [Act.put, List.getElem_toArray, List.getElem_cons_zero, List.getElem_cons_succ, List.setIfInBounds_toArray, List.set_cons_zero, List.set_cons_succ])
          refine wpAnyH_done (by kernel_rfl) ?_ _
          go_wp2_with fail
          go_meet
          exact Lib.hid ⟨B8, rfl, hB8, HFE.out, HE.out⟩
        -- END7
      case rest =>
      obtain ⟨B8, rfl, hB8, hN8, hb8⟩ := Hid.out hcut
      obtain ⟨w3, rfl⟩ : ∃ w3, w3 = wc := ⟨_, rfl⟩
      have HN8 := Lib.hid hN8
      have HB8 := Lib.hid hb8
      clear hcut hN8 hb8
      have q1 := (five_of (HN8.out.blk HB7.out fun x => x)).2.2.2.2
      obtain ⟨_, _, _, _, q2, _, _, _, _, q3⟩ := box5_c HB8.out
      have hne : ¬ B7 = B8 := fun e => by have := (Array.getElem?_eq_some_iff.1 HB7.out).1; omega
      have HS8 : Hid ((w3.setCell ⟨B8, 4, none⟩ (.bool !xp)).heap[B8]? = some (.cells #[.int .i64 ya, .int .i64 yb, .int .i64 yc, .int .i64 yd, .bool !xp] 58 (0, 0))) := Lib.hid (by
        have := HB8.out
        unfold World.setCell; simp [Array.getElem?_modify, this])
      have HF8 : Hid (New w2 (w3.setCell ⟨B8, 4, none⟩ (.bool !xp))) := Lib.hid (HN8.out.next ((Fr.refl (fun j => j = B8) w3).setCell (a := ⟨B8, 4, none⟩) (.inl rfl) _) fun i hi => .inr (by rw [hi]; exact hB8))
      obtain ⟨w4, HW4⟩ : ∃ w4, Hid (w4 = w3.setCell ⟨B8, 4, none⟩ (.bool !xp)) := ⟨_, Lib.hid rfl⟩
      rw [← HW4.out] at HS8 HF8
      have hw4 : w3.setCell ⟨B8, 4, none⟩ (.bool !xp) = w4 := HW4.out.symm
      have HI4 := Lib.hid (HI2.out.nw HF8.out)
      have hbx : w4.drew.cell? ⟨b, 0, none⟩ = some (.slice (some ⟨g, 0, none⟩) n c1) := by
        have h1 := HI4.out.blk
        rw [HCS.out] at h1
        exact cell_of_row _ _ 0 _ 47 (0, 0) h1
      obtain ⟨y1, y2, y3, y4, y5⟩ : _ ∧ _ ∧ _ ∧ _ ∧ _ := five_of (show w4.drew.heap[B8]? = _ from HS8.out)
      go_wp2
      clear q1 q2 q3
      (try rw [hw4])
      go_still_tail 8, (by kernel_rfl)
      clear hbx y1 y2 y3 y4 y5
      change wpList _ _ _ _ _ w4.drew
      obtain ⟨w5, HW5⟩ : ∃ w5, Hid (w5 = w4.drew) := ⟨_, Lib.hid rfl⟩
      rw [← HW5.out]
      have HI5 : Hid (MI w w5 (w.heap.size + 1) b (.slice (some ⟨g, 0, none⟩) n c1) L cs base (mirTo Kn.mirC X k)) := Lib.hid (by rw [HW5.out]; exact HI4.out.nw (Fr.refl _ w4).drew)
      have hown := HI5.out.own
      rw [mirTo_len, ← HN.out] at hown
      have hx5 := own_five hown (by rw [mirTo_len]; exact HN.out) (j := k) (by rw [mirTo_len]; exact hkX)
      rw [mirTo_cr hkX, HXC.out] at hx5
      obtain ⟨x1, x2, x3, x4, x5⟩ := hx5
      have hfz := fun j => own_free hown j
      have HP := Lib.hid (HI5.out.put (k := k) (x := Kn.mirC (Kn.cr X k)) (by rw [mirTo_len]; exact HN.out) (by rw [mirTo_len]; exact hkX))
      rw [mirTo_succ hkX, HXC.out] at HP
      have hym : Kn.mirC ⟨xa, xb, xc, xd, xp⟩ = ⟨ya, yb, yc, yd, !xp⟩ := by
        have := HYE.out
        simp only [crV, Value.agg.injEq, Array.mk.injEq, List.cons.injEq, Value.int.injEq, true_and] at this
        unfold Kn.mirC
        have e1 := this
        simp only [Kn.turnC] at e1 ⊢
        simp_all
      rw [hym] at HP
      clear hown hym
      go_wp2
      go_roundw
      case rel => exact ⟨k + 1, by omega, by go_num, HP⟩
      case measure => simp [intOf]; omega
    · have hkn' : k = n := by omega
      have hki : ¬ (k : Int) < (n : Int) := by omega
      have HG : Hid (MI w wr (w.heap.size + 1) b (.slice a1 n c1) L cs base (Kn.mirL X)) := Lib.hid (by
        have h1 := HI.out
        have h2 : mirTo Kn.mirC X k = Kn.mirL X := by rw [hkn', HN.out, mirTo_all]; rfl
        rw [h2] at h1
        exact h1)
      clear HI
      have hbx := HG.out.blk
      rw [HCS.out] at hbx
      have p0 := cell_of_row _ _ 0 _ 47 (0, 0) hbx
      have p1 := cell_of_row _ _ 1 _ 47 (0, 0) hbx
      simp only [shCells] at p0 p1
      have hb1 := (box2_set HG.out.res (.slice a1 n c1)).1
      have hb2 := (box2_set hb1 (.int .i64 L)).2
      obtain ⟨e0, _, z0, _⟩ := box2_c HG.out.res
      obtain ⟨_, e1, _, z1⟩ := box2_c hb1
      obtain ⟨m5, m6, _, _⟩ := box2_c hb2
      clear hb1 hb2 hbx
      go_wp2
      exact bodyPost_ret (v := .tuple #[.agg #[.slice a1 n c1, .int .i64 L], .int .i64 0]) (by simp [results, Try.results6, go_sem, m5, m6]) rfl HG.out.gave
end Go.Proofs.Ytlicglicfijelaa
