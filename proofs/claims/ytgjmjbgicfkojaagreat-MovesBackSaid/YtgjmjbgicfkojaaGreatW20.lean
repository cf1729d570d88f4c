/- Walks: see. -/
import Derived.Test.YtgjmjbgicfkojaaGreatW17
import Derived.Test.YtgjmjbgicfkojaaGreatW14
/- Walks: see. -/
namespace Go.Proofs.YtgjmjbgicfkojaaGreat
open Go.RowKit

theorem one_ii (x y : Int) : ∀ u ∈ [Value.int .i64 x, .int .i64 y], u.oneCell' = true := by
  intro u hu
  simp only [List.mem_cons, List.not_mem_nil, or_false] at hu
  rcases hu with rfl | rfl <;> rfl
def OwnV (base : Nat) (w : World) (v : Value) (x : Kn.Vw) : Prop := ∃ sc sd, v = .agg #[sc, sd] ∧ w.ownsRow base 3 1 sc x.1.length (nums x.1) ∧ w.ownsRow base 3 1 sd x.2.length (ints x.2)
def GaveVw (x : Kn.Vw) (w : World) (e : Ending) (w' : World) : Prop := ∃ v, e = .returned v ∧ OwnV w.heap.size w' v x ∧ New w w'
theorem sides_fst_pre (X : List Kn.Cr) (y : Nat) : ∀ (j : Nat) (st : Kn.Vw), st.1 <+: (Kn.seeSides X y j st).1
  | 0, st => List.prefix_refl _
  | j + 1, st => by
    refine (sides_fst_pre X y j st).trans ?_; rw [Kn.seeSides]
    unfold Kn.seePl
    simp only
    split
    · exact List.prefix_refl _
    · exact List.prefix_append _ _
theorem own_cell {w : World} {base n g c : Nat} {a : Addr} {l : List Nat} (h : w.ownsRow base 3 1 (.slice (some a) n c) l.length (nums l)) (ha : a = ⟨g, 0, none⟩) {q : Nat} (hq : q < l.length) : w.cell? ⟨g, q, none⟩ = some (.int .i64 (l.getD q 0 : Nat)) := by
  subst ha; have := World.ownsRow.cells h (g := g) rfl q (.int .i64 (l.getD q 0 : Nat)) (by rw [List.getD_eq_getElem?_getD, List.getElem?_eq_getElem hq]; simp [nums, hq])
  rwa [addr_add, Nat.zero_add] at this

theorem seeG_end (X : List Kn.Cr) : ∀ (k i : Nat) (st : Kn.Vw), ¬ i < st.1.length → Kn.seeG X k i st = st
  | 0, _, _, _ => rfl
  | k + 1, i, st, h => by rw [Kn.seeG, if_neg h]
theorem seePl_old {X : List Kn.Cr} {st : Kn.Vw} {p : Kn.Pl} {pc ps : Nat} (h : Kn.other X p = (pc, ps)) (hm : pc ∈ st.1) : Kn.seePl X st p = (st.1, st.2 ++ [((st.1.idxOf pc : Nat) : Int), (ps : Int)]) := by
  unfold Kn.seePl
  rw [h]; simp only [if_pos hm]
theorem seePl_new {X : List Kn.Cr} {st : Kn.Vw} {p : Kn.Pl} {pc ps : Nat} (h : Kn.other X p = (pc, ps)) (hm : pc ∉ st.1) : Kn.seePl X st p = (st.1 ++ [pc], st.2 ++ [((st.1.length : Nat) : Int), (ps : Int)]) := by
  unfold Kn.seePl
  rw [h]; simp only [if_neg hm]; rw [List.idxOf_eq_length hm]
theorem box2_c {W : World} {B t : Nat} {a b : Value} (h : W.heap[B]? = some (.cells #[a, b] t (0, 0))) : W.cell? ⟨B, 0, none⟩ = some a ∧ W.cell? ⟨B, 1, none⟩ = some b ∧ W.frozen? ⟨B, 0, none⟩ = false ∧ W.frozen? ⟨B, 1, none⟩ = false :=
  ⟨cell_of_row _ _ 0 _ t (0, 0) h, cell_of_row _ _ 1 _ t (0, 0) h, by simp [World.frozen?, h], by simp [World.frozen?, h]⟩
theorem box2_ne {W : World} {B B' t t' : Nat} {cs cs' : Array Value} (h : W.heap[B]? = some (.cells cs t (0, 0))) (h' : W.heap[B']? = some (.cells cs' t' (0, 0))) (hne : t ≠ t') : ¬ B = B' := by
  rintro rfl; rw [h] at h'
  injection h' with h'
  injection h' with _ h'
  exact hne h'

set_option maxRecDepth 100000 in
set_option maxHeartbeats 8000000 in
theorem see_any (b c : Nat) (X : List Kn.Cr) (L : Int) (w : World) (h : ShAt w b X L) (hX : Kn.Ok X) (hl : X.length ≤ 16) (hc : c < X.length) :
    Calls Tryz.prog 40 #[.pointer (some ⟨b, 0, none⟩), .int .i64 c] w (GaveVw (Kn.see X c) w) := by
  have hmm := @run_makeMap Tryz.prog; obtain ⟨n, bx, ox, cc, bi, bo, r⟩ := h.read (by omega); have hn : n = X.length := r.len
  have hn16 : n ≤ 16 := by omega
  have HRd := Lib.hid r; have HS := Lib.hid h; have HX := Lib.hid hX; have HN := Lib.hid hn
  have hcn : c < n := by omega
  clear h hX hn r hc; obtain ⟨i0, hi, hz0, hz1, hz2⟩ := info_parts Tryz.info3
  go_enter Tryz.func40, Tryz.ntmps40
  obtain ⟨w1, HW1⟩ : ∃ w1, Hid (w1 = w.alloc (.cells #[.slice none 0 0, .slice none 0 0] 94)) := ⟨_, Lib.hid rfl⟩
  have HO : Hid ((w1.alloc (.map #[] 0)).ownsMap Tryz.prog 3 (plainElem (H := Unit) Tryz.prog 3) w1.heap.size 0 (.map [])) := Lib.hid (World.ownsMap_made _ _ _ _); have HSZ : Hid (w1.heap.size = w.heap.size + 1) := Lib.hid (by rw [HW1.out]; simp); have HWc := Lib.hid (wfN (x := c) (by omega)); have HW0 := Lib.hid (wfN (x := 0) (by omega))
  go_wp2_with (first
    | (rw [← HW1.out]; refine wpList_insert_own _ rfl _ _ _ 80 rfl 3 3 Tryz.law3 Tryz.ul80 _ w1.heap.size 0 _ (by rw [HSZ.out]; rfl) HO.out (by unfold maxLen; omega) _ _ _ rfl rfl (Maps.keyOf_int_mk Tryz.underlying3 HWc.out) _ [] (plainElem_int Tryz.underlying3 HW0.out) ?_; intro w3 hown3 hg3; rw [HSZ.out] at hown3 hg3; have HO3 := Lib.hid hown3; have HG3 := Lib.hid hg3; clear hown3 hg3)
    | go_in)
  have HS0 : Hid (SInv w1 ((w3.alloc (.cells #[.int .i64 (c : Int)] 3)).alloc (.cells #[.slice (some ⟨w3.heap.size, 0, none⟩) 1 1, .slice none 0 0] 94)) (w3.heap.size + 1) (w.heap.size + 1) [c] [] [c] (.slice (some ⟨w3.heap.size, 0, none⟩) 1 1) (.slice none 0 0)) := Lib.hid (by
    have hs3 : w.heap.size + 1 ≤ w3.heap.size := by have := HG3.out.size; simp at this; rw [HSZ.out] at this; omega
    have hn3 : New w1 w3 := ((Fr.refl (fun _ => False) w1).alloc _).grown HG3.out fun k e => .inr (by have := Option.some.inj e; have := HSZ.out; omega)
    have hm3 : NumMap2 w3 (w.heap.size + 1) [c] (fun x => [c].idxOf x) := NumMap2.put (l := []) (f := fun _ => 0) (y := 0) Maps.isMap_empty (fun x => ⟨by rw [if_neg (by simp)]; rfl, by rw [decide_eq_false (by simp)]; rfl⟩) (fun z hz => by cases hz) (by simp) (by simp) HO3.out; have hF : New w3 ((w3.alloc (.cells #[.int .i64 (c : Int)] 3)).alloc (.cells #[.slice (some ⟨w3.heap.size, 0, none⟩) 1 1, .slice none 0 0] 94)) := ((Fr.refl _ _).alloc _).alloc _
    refine ⟨hn3.trans hF, by have := HSZ.out; omega, by have := HSZ.out; omega, ?_, ?_, ⟨rfl, .inl ⟨rfl, rfl⟩⟩, (fun k _ hk => by cases hk), hm3.fr hF fun x => x⟩
    · have := heap_alloc_new (w3.alloc (.cells #[.int .i64 (c : Int)] 3)) (.cells #[.slice (some ⟨w3.heap.size, 0, none⟩) 1 1, .slice none 0 0] 94)
      rwa [World.size_alloc] at this
    · exact own_base (World.ownsRow.alloc (own_lit w3 c) _) (by have := HSZ.out; omega))
  obtain ⟨vb, HVB⟩ : ∃ vb, Hid (vb = w3.heap.size + 1) := ⟨_, Lib.hid rfl⟩
  obtain ⟨w4, HW4⟩ : ∃ w4, Hid (w4 = (w3.alloc (.cells #[.int .i64 (c : Int)] 3)).alloc (.cells #[.slice (some ⟨w3.heap.size, 0, none⟩) 1 1, .slice none 0 0] 94)) := ⟨_, Lib.hid rfl⟩
  rw [← HW4.out, ← HVB.out] at HS0 ⊢
  go_loopw [7] (fun i wr => ∃ (q : Nat) (l : List Nat) (code : List Int) (sc sd : Value), q ≤ l.length ∧ i = .int .i64 q ∧ Hid (SInv w1 wr vb (w.heap.size + 1) l code l sc sd) ∧ Hid (l.Nodup ∧ ∀ x ∈ l, x < n) ∧ Hid (code.length = 9 * q) ∧ Hid (∃ k, k + q = n + 1 ∧ Kn.seeG X k q (l, code) = Kn.see X c)) (fun i _ => n - (intOf i).toNat)
  case atStart => exact ⟨0, [c], [], _, _, by simp, rfl, HS0, Lib.hid ⟨by simp, fun x hx => by rw [List.mem_singleton] at hx; subst hx; exact hcn⟩, Lib.hid rfl, Lib.hid ⟨n + 1, rfl, by rw [HN.out]; rfl⟩⟩
  case round =>
    obtain ⟨q, l, code, sc, sd, hql, rfl, HI, HND, HCL, HE⟩ := hrel
    have hln : l.length ≤ n := by
      have := Kn.nodup_le HND.out.1 (m := List.range n) (fun x hx => List.mem_range.2 (HND.out.2 x hx))
      simpa using this
    obtain ⟨a8, c8, rfl, _⟩ := own_shape2 HI.out.oc; obtain ⟨a9, c9, rfl, _⟩ := own_shape2 HI.out.od
    obtain ⟨ll, HLL⟩ : ∃ ll, Hid (ll = l.length) := ⟨_, Lib.hid rfl⟩
    obtain ⟨cl, HCC⟩ : ∃ cl, Hid (cl = code.length) := ⟨_, Lib.hid rfl⟩
    have hI := HI.out; rw [← HLL.out, ← HCC.out] at hI; rw [← HLL.out] at hql hln; obtain ⟨v0, v1, f0, f1⟩ := hI.cells; have HI2 := Lib.hid hI; clear hI
    by_cases hlq : q < ll
    · obtain ⟨y, HY⟩ : ∃ y, Hid (y = l.getD q 0) := ⟨_, Lib.hid rfl⟩
      have hyn : y < n := by rw [HY.out]; exact HND.out.2 _ (Kn.getD_mem (by have := HLL.out; omega))
      obtain ⟨g, rfl, hcy⟩ : ∃ g, a8 = some ⟨g, 0, none⟩ ∧ wr.cell? ⟨g, q, none⟩ = some (.int .i64 (y : Nat)) := by
        obtain ⟨a, cz, e1, _, e2⟩ := own_shape HI2.out.oc
        cases e1
        obtain ⟨g, rfl, _, _⟩ := e2 (by have := HLL.out; omega); have := own_cell (g := g) HI2.out.oc rfl (q := q) (by have := HLL.out; omega); rw [← HY.out] at this
        exact ⟨g, rfl, this⟩
      have hrd := New.shR (((Fr.refl (fun _ => False) w).alloc (.cells #[.slice none 0 0, .slice none 0 0] 94)).trans (HW1.out ▸ HI2.out.new)) HRd.out; have hb0 := hrd.c0; have hb4 := (hrd.cr y hyn).p
      have hcl : cl ≤ 144 := by have := HCL.out; have := HCC.out; omega
      have i1 : (0 : Int) ≤ (q : Int) := by omega
      have i2 : (q : Int) < (ll : Int) := by omega
      have i3 : (0 : Int) ≤ (y : Int) := by omega
      have i4 : (y : Int) < (n : Int) := by omega
      obtain ⟨xp, HXP⟩ : ∃ xp, Hid (xp = (Kn.cr X y).p) := ⟨_, Lib.hid rfl⟩
      rw [← HXP.out] at hb4
      obtain ⟨pv, HPV⟩ : ∃ pv : Nat, Hid ((pv : Int) = Kn.plusI (Kn.cr X y)) := ⟨if (Kn.cr X y).p then 1 else 0, Lib.hid (by unfold Kn.plusI; split <;> rfl)⟩
      clear hrd; obtain ⟨i4', hi4, hw0, hw1, hw2⟩ := info_parts Tryz.info3; have HS12 : Hid (w1.heap.size ≤ wr.heap.size) := Lib.hid HI2.out.new.size; have HHR := Lib.hid (show New w wr from ((Fr.refl (fun _ => False) w).alloc (.cells #[.slice none 0 0, .slice none 0 0] 94)).trans (HW1.out ▸ HI2.out.new)); have hod := HI2.out.od; rw [← HCC.out] at hod; have HOD := Lib.hid hod; clear hod
      cases xp
      all_goals
        have HPX : Hid (Kn.plusI (Kn.cr X y) = if (Kn.cr X y).p then 1 else 0) := Lib.hid rfl; rw [← HXP.out] at HPX
        go_wp2_with (at_builtin; (first | refine wpList_append_own_at _ rfl _ _ 52 rfl w1.heap.size 3 i0 (.int .i64 0) 1 8 Tryz.underlying52 hi hz0 hz1 hz2 rfl (by decide) _ cl (ints code) rfl (World.ownsRow.alloc HOD.out _) ⟨wr.heap.size, 0, none⟩ 1 1 [.int .i64 0] rfl rfl (cell_one' rfl) (one_int _) (by unfold maxLen; omega) (by omega) (by have := HS12.out; rw [World.size_alloc]; omega) ?_ | refine wpList_append_own_at _ rfl _ _ 52 rfl w1.heap.size 3 i0 (.int .i64 0) 1 8 Tryz.underlying52 hi hz0 hz1 hz2 rfl (by decide) _ cl (ints code) rfl (World.ownsRow.alloc HOD.out _) ⟨wr.heap.size, 0, none⟩ 1 1 [.int .i64 1] rfl rfl (cell_one' rfl) (one_int _) (by unfold maxLen; omega) (by omega) (by have := HS12.out; rw [World.size_alloc]; omega) ?_); intro v' w7 hown hgrow _ hloc; obtain ⟨a10, c10, rfl, _⟩ := own_shape2 hown; have hb7 := row_app HI2.out.box HI2.out.od (by decide) hgrow; obtain ⟨_, y1, _, y3⟩ := box2_c hb7; have HC1 : Hid (SInv w1 (w7.setCell ⟨vb, 1, none⟩ (.slice a10 (cl + 1) c10)) vb (w.heap.size + 1) l (code ++ [Kn.plusI (Kn.cr X y)]) l (.slice (some ⟨g, 0, none⟩) ll c8) (.slice a10 (cl + 1) c10)) := Lib.hid (HI2.out.code HCC.out (news := [Kn.plusI (Kn.cr X y)]) (by rw [HPX.out]; exact hown) hgrow hloc); clear hown hgrow hloc hb7)
        obtain ⟨wo, rfl⟩ : ∃ wo, wo = wr := ⟨_, rfl⟩
        go_loopw [47] (fun i wr => ∃ (j : Nat) (lj : List Nat) (cj : List Int) (sc sd : Value), j ≤ 4 ∧ i = .int .i64 j ∧ Hid (SInv w1 wr vb (w.heap.size + 1) lj cj lj sc sd) ∧ Hid (lj.Nodup ∧ ∀ x ∈ lj, x < n) ∧ Hid (cj.length = 9 * q + 1 + 2 * j) ∧ Hid ((lj, cj) = Kn.seeSides X y j (l, code ++ [Kn.plusI (Kn.cr X y)]))) (fun i _ => 4 - (intOf i).toNat)
        case atStart => exact ⟨0, l, _, _, _, by omega, rfl, HC1, HND, Lib.hid (by have := HCL.out; simp; omega), Lib.hid rfl⟩
        case round =>
          obtain ⟨j, lj, cj, sc, sd, hj, rfl, HIj, HNDj, HCLj, HQj⟩ := hrel
          have hljn : lj.length ≤ n := by
            have := Kn.nodup_le HNDj.out.1 (m := List.range n) (fun x hx => List.mem_range.2 (HNDj.out.2 x hx))
            simpa using this
          obtain ⟨a11, c11, rfl, _⟩ := own_shape2 HIj.out.oc; obtain ⟨a12, c12, rfl, _⟩ := own_shape2 HIj.out.od
          obtain ⟨m, HM⟩ : ∃ m, Hid (m = lj.length) := ⟨_, Lib.hid rfl⟩
          obtain ⟨cm, HCM⟩ : ∃ cm, Hid (cm = cj.length) := ⟨_, Lib.hid rfl⟩
          have hI := HIj.out; rw [← HM.out, ← HCM.out] at hI; rw [← HM.out] at hljn; obtain ⟨v2, v3, f2, f3⟩ := hI.cells; have HIk := Lib.hid hI; clear hI
          have hcm : cm ≤ 160 := by have := HCLj.out; have := HCM.out; omega
          by_cases hj4 : j < 4
          · have HNw := Lib.hid (show New w wr from ((Fr.refl (fun _ => False) w).alloc (.cells #[.slice none 0 0, .slice none 0 0] 94)).trans (HW1.out ▸ HIk.out.new))
            have HS1r : Hid (w1.heap.size ≤ wr.heap.size) := Lib.hid HIk.out.new.size
            obtain ⟨pc, ps, HP⟩ : ∃ pc ps, Hid (Kn.other X (y, j) = (pc, ps)) := ⟨_, _, Lib.hid rfl⟩
            have hpn : pc < n := by
              have := (HX.out.isPl_other (p := (y, j)) ⟨by have := HN.out; omega, hj4⟩).1; rw [HP.out] at this; have := HN.out; simp only at *
              omega
            by_cases hps : pc ∈ lj
            · obtain ⟨ix, HIX⟩ : ∃ ix, Hid (ix = lj.idxOf pc) := ⟨_, Lib.hid rfl⟩
              have HPS := Lib.hid hps; clear hps
              go_wp2_with (first
                | (go_at_call 69; refine (other_any b y j X L _ (New.shAt HNw.out HS.out) HX.out hl (by have := HN.out; omega) hj4).mono ?_; rintro e w5 ⟨rfl, hE⟩; rw [HP.out]; have HI5 : Hid (SInv w1 (w5.alloc (.cells #[.int .i64 (pc : Int), .int .i64 (ps : Int)] 82)) vb (w.heap.size + 1) lj cj lj (.slice a11 m c11) (.slice a12 cm c12)) := Lib.hid ((HIk.out.fr hE).fr ((Fr.refl _ w5).alloc _)); have hk := HI5.out.map.look (x := pc) (by omega); rw [if_pos HPS.out, decide_eq_true HPS.out, ← HIX.out] at hk; obtain ⟨_, g1, _, g3⟩ := HI5.out.cells; have hod := HI5.out.od; rw [← HCM.out] at hod; have HOD5 := Lib.hid hod; have HS5 : Hid (w1.heap.size ≤ (w5.alloc (.cells #[.int .i64 (pc : Int), .int .i64 (ps : Int)] 82)).heap.size) := Lib.hid HI5.out.new.size; clear hE hod)
                | (at_builtin; refine wpList_append_own_at _ rfl _ _ 52 rfl w1.heap.size 3 i0 (.int .i64 0) 1 8 Tryz.underlying52 hi hz0 hz1 hz2 rfl (by decide) _ cm (ints cj) rfl (World.ownsRow.alloc HOD5.out _) ⟨_, 0, none⟩ 2 2 [.int .i64 (ix : Int), .int .i64 (ps : Int)] rfl rfl (cell_two (World.size_alloc _ _).symm) (one_ii _ _) (by unfold maxLen; omega) (by omega) (by have := HS5.out; simp only [World.size_alloc] at this ⊢; omega) ?_; intro v' w7 hown hgrow _ hloc; obtain ⟨a13, c13, rfl, _⟩ := own_shape2 hown; have hb7 := row_app HI5.out.box HI5.out.od (by decide) hgrow; obtain ⟨_, g5, _, g7⟩ := box2_c hb7; have HC6 := Lib.hid (HI5.out.code HCM.out (news := [(ix : Int), (ps : Int)]) hown hgrow hloc); clear hown hgrow hloc hb7))
              go_roundw
              case rel =>
                refine ⟨j + 1, lj, _, _, _, by omega, by go_num, HC6, HNDj, Lib.hid (by have := HCLj.out; simp; omega), Lib.hid ?_⟩
                rw [Kn.seeSides, ← HQj.out, seePl_old HP.out HPS.out, HIX.out]
              case measure => simp [intOf]; omega
            · have hm1 : m + 1 ≤ n := by
                have := Kn.nodup_le (Kn.nodup_snoc HNDj.out.1 hps) (m := List.range n) (fun x hx => by
                  rw [List.mem_append, List.mem_singleton] at hx
                  rcases hx with hx | rfl
                  · exact List.mem_range.2 (HNDj.out.2 x hx)
                  · exact List.mem_range.2 hpn)
                simp at this
                have := HM.out
                omega
              have HPS := Lib.hid hps; have HWk := Lib.hid (wfN (x := pc) (by omega)); have HWm := Lib.hid (wfN (x := m) (by omega)); clear hps
              go_wp2_with (first
                | (go_at_call 69; refine (other_any b y j X L _ (New.shAt HNw.out HS.out) HX.out hl (by have := HN.out; omega) hj4).mono ?_; rintro e w5 ⟨rfl, hE⟩; rw [HP.out]; have HI5 : Hid (SInv w1 (w5.alloc (.cells #[.int .i64 (pc : Int), .int .i64 (ps : Int)] 82)) vb (w.heap.size + 1) lj cj lj (.slice a11 m c11) (.slice a12 cm c12)) := Lib.hid ((HIk.out.fr hE).fr ((Fr.refl _ w5).alloc _)); have HPB5 : Hid ((w5.alloc (.cells #[.int .i64 (pc : Int), .int .i64 (ps : Int)] 82)).heap[w5.heap.size]? = some (.cells #[.int .i64 (pc : Int), .int .i64 (ps : Int)] 82 (0, 0))) := Lib.hid (heap_alloc_new _ _); have hk := HI5.out.map.look (x := pc) (by omega); rw [if_neg HPS.out, decide_eq_false HPS.out] at hk; obtain ⟨g0, _, _, _⟩ := HI5.out.cells; obtain ⟨D, hown5, hm5, hr5⟩ := HI5.out.map; rw [← HM.out] at hown5; have HO5 := Lib.hid hown5; have HM5 := Lib.hid hm5; have HR5 := Lib.hid hr5; clear hE hown5 hm5 hr5)
                | (at_mapUpdate; refine wpList_mapUpdate_own _ rfl _ _ _ 80 rfl 3 3 Tryz.law3 Tryz.ul80 _ (w.heap.size + 1) m _ rfl HO5.out (by unfold maxLen; omega) _ _ _ rfl rfl (Maps.keyOf_int_mk Tryz.underlying3 HWk.out) _ [] (plainElem_int Tryz.underlying3 HWm.out) ?_; intro w6 hown6 hg6; have HI6 : Hid (SInv w1 w6 vb (w.heap.size + 1) lj cj (lj ++ [pc]) (.slice a11 m c11) (.slice a12 cm c12)) := Lib.hid (HI5.out.put HPS.out HM5.out HR5.out (by rw [← HM.out]; exact hown6) hg6); have hpb := HPB5.out; obtain ⟨es, ck, hmb⟩ := HI5.out.map.block; have hpb6 := ((Fr.refl (fun k => k = w.heap.size + 1) _).grown hg6 fun k e => .inl (Option.some.inj e).symm).blk hpb (fun e => by rw [e, hmb] at hpb; cases hpb); have HPB6 := Lib.hid hpb6; obtain ⟨x0, x1, _, _⟩ := box2_c hpb6; obtain ⟨y4, y5, y6, y7⟩ := HI6.out.cells; have hod := HI6.out.oc; rw [← HM.out] at hod; have HOC6 := Lib.hid hod; have HS6 : Hid (w1.heap.size ≤ w6.heap.size) := Lib.hid HI6.out.new.size; clear hown6 hg6 hpb hpb6 hmb hod)
                | (at_builtin; refine wpList_append_own_at _ rfl _ _ 52 rfl w1.heap.size 3 i0 (.int .i64 0) 1 8 Tryz.underlying52 hi hz0 hz1 hz2 rfl (by decide) _ m (nums lj) rfl (World.ownsRow.alloc HOC6.out _) ⟨_, 0, none⟩ 1 1 [.int .i64 (pc : Int)] rfl rfl (cell_one' rfl) (one_int _) (by unfold maxLen; omega) (by omega) (by have := HS6.out; simp only [World.size_alloc] at this ⊢; omega) ?_; intro v' w7 hown hgrow _ hloc; obtain ⟨a13, c13, rfl, _⟩ := own_shape2 hown; have hb7 := row_app HI6.out.box HI6.out.oc (by decide) hgrow; obtain ⟨g5, _, g7, _⟩ := box2_c hb7; have hpb7 := row_app HPB6.out HI6.out.oc (by decide) hgrow; have hpb8 := ((Fr.refl (fun k => k = vb) w7).setCell (a := ⟨vb, 0, none⟩) (.inl rfl) (.slice a13 (m + 1) c13)).blk hpb7 (box2_ne hpb7 hb7 (by decide)); obtain ⟨x2, x3, _, _⟩ := box2_c hpb8; have HI8 := Lib.hid (HI6.out.cross HM.out hown hgrow hloc); obtain ⟨y8, y9, y10, y11⟩ := HI8.out.cells; have hod := HI8.out.od; rw [← HCM.out] at hod; have HOD8 := Lib.hid hod; have HS8 := Lib.hid HI8.out.new.size; clear hown hgrow hloc hb7 hpb7 hpb8 hod)
                | (at_builtin; refine wpList_append_own_at _ rfl _ _ 52 rfl w1.heap.size 3 i0 (.int .i64 0) 1 8 Tryz.underlying52 hi hz0 hz1 hz2 rfl (by decide) _ cm (ints cj) rfl (World.ownsRow.alloc HOD8.out _) ⟨_, 0, none⟩ 2 2 [.int .i64 (m : Int), .int .i64 (ps : Int)] rfl rfl (cell_two (size_set _ _ _).symm) (one_ii _ _) (by unfold maxLen; omega) (by omega) (by have := HS8.out; simp only [World.size_alloc, size_set] at this ⊢; omega) ?_; intro v' w9 hown hgrow _ hloc; obtain ⟨a15, c15, rfl, _⟩ := own_shape2 hown; have hb7 := row_app HI8.out.box HI8.out.od (by decide) hgrow; obtain ⟨_, g8, _, g9⟩ := box2_c hb7; have HC9 := Lib.hid (HI8.out.code HCM.out (news := [(m : Int), (ps : Int)]) hown hgrow hloc); clear hown hgrow hloc hb7))
              go_roundw
              case rel =>
                refine ⟨j + 1, lj ++ [pc], _, _, _, by omega, by go_num, HC9, Lib.hid ⟨Kn.nodup_snoc HNDj.out.1 HPS.out, fun x hx => ?_⟩, Lib.hid (by have := HCLj.out; simp; omega), Lib.hid ?_⟩
                · rw [List.mem_append, List.mem_singleton] at hx
                  rcases hx with hx | rfl
                  · exact HNDj.out.2 x hx
                  · exact hpn
                · rw [Kn.seeSides, ← HQj.out, seePl_new HP.out HPS.out, HM.out]
              case measure => simp [intOf]; omega
          · obtain rfl : j = 4 := by omega
            go_wp2
            go_roundw
            case rel =>
              have hpre : l <+: lj := by
                have := sides_fst_pre X y 4 (l, code ++ [Kn.plusI (Kn.cr X y)]); rw [← HQj.out] at this
                exact this
              refine ⟨q + 1, lj, cj, _, _, by have := hpre.length_le; have := HLL.out; omega, by go_num, HIj, HNDj, Lib.hid (by have := HCLj.out; omega), Lib.hid ?_⟩
              obtain ⟨k, hk, he⟩ := HE.out
              obtain ⟨k', rfl⟩ : ∃ k', k = k' + 1 := ⟨k - 1, by omega⟩
              refine ⟨k', by omega, ?_⟩
              rw [Kn.seeG, if_pos (by have := HLL.out; simp only; omega)] at he; rw [HQj.out, ← he, Kn.seeC]
              simp only
              rw [← HY.out]
            case measure => simp [intOf]; omega
    · obtain rfl : q = ll := by omega
      have hb0 := HI2.out.new.blk (show w1.heap[w.heap.size]? = some (.cells #[.slice none 0 0, .slice none 0 0] 94 (0, 0)) from HW1.out ▸ heap_alloc_new _ _) fun x => x
      have hb1 := (box2_set hb0 (.slice a8 q c8)).1; have hb2 := (box2_set hb1 (.slice a9 cl c9)).2; obtain ⟨e0, _, z0, _⟩ := box2_c hb0; obtain ⟨_, e1, _, z1⟩ := box2_c hb1; obtain ⟨m5, m6, _, _⟩ := box2_c hb2; have HB0 := Lib.hid hb0; clear hb0 hb1 hb2; go_wp2
      refine bodyPost_ret (v := .agg #[.slice a8 q c8, .slice a9 cl c9]) (by simp [results, Tryz.results40, go_sem, m5, m6]) rfl ⟨_, rfl, ⟨_, _, rfl, ?_, ?_⟩, ?_⟩
      all_goals
        have hF : Fr (fun k => k = w.heap.size) wr ((wr.setCell ⟨w.heap.size, 0, none⟩ (.slice a8 q c8)).setCell ⟨w.heap.size, 1, none⟩ (.slice a9 cl c9)) := by refine Fr.setCell (Fr.setCell (Fr.refl _ wr) ?_ _) ?_ _ <;> exact .inl rfl
        obtain ⟨k, _, hE⟩ := HE.out; rw [seeG_end X k q (l, code) (by have := HLL.out; simp; omega)] at hE
      · rw [← hE]
        have := own_base (base' := w.heap.size) (hF.owns HI2.out.oc fun k hk e => blk_not_own HB0.out HI2.out.oc (by decide) (e ▸ hk)) (by have := HSZ.out; omega)
        exact this
      · rw [← hE]
        have := own_base (base' := w.heap.size) (hF.owns HI2.out.od fun k hk e => blk_not_own HB0.out HI2.out.od (by decide) (e ▸ hk)) (by have := HSZ.out; omega)
        exact this
      · exact (((Fr.refl (fun _ => False) w).alloc (.cells #[.slice none 0 0, .slice none 0 0] 94)).trans (HW1.out ▸ HI2.out.new)).next hF fun i hi => .inr (by rw [hi]; exact Nat.le_refl _)
end Go.Proofs.YtgjmjbgicfkojaaGreat

/- Walks: slices.Compare, cmp.Or, Form$1. -/
namespace Go.Proofs.YtgjmjbgicfkojaaGreat
open Go.RowKit

theorem cmpI_lib (x y : Int) : Lib.compareInt x y = Kn.cmpI x y := by unfold Lib.compareInt Kn.cmpI; rfl
theorem cmpL_step {l m : List Int} {i : Nat} (h : i < l.length) (k : i < m.length) : Kn.cmpL (l.drop i) (m.drop i) = if Kn.cmpI l[i] m[i] = 0 then Kn.cmpL (l.drop (i + 1)) (m.drop (i + 1)) else Kn.cmpI l[i] m[i] := by
  rw [List.drop_eq_getElem_cons h, List.drop_eq_getElem_cons k, Kn.cmpL]
theorem cmpL_more {l m : List Int} {i : Nat} (h : i < l.length) (k : m.length ≤ i) : Kn.cmpL (l.drop i) (m.drop i) = 1 := by
  rw [List.drop_eq_getElem_cons h, List.drop_eq_nil_of_le k, Kn.cmpL]
theorem cmpL_done {l m : List Int} {i : Nat} (h : l.length ≤ i) : Kn.cmpL (l.drop i) (m.drop i) = if i < m.length then -1 else 0 := by
  rw [List.drop_eq_nil_of_le h]
  split
  · rename_i k
    rw [List.drop_eq_getElem_cons k, Kn.cmpL]
  · rename_i k
    rw [List.drop_eq_nil_of_le (by omega), Kn.cmpL]
theorem own_int {base n : Nat} {w : World} {v : Value} {l : List Int} (h : w.ownsRow base 3 1 v n (ints l)) (hn : n = l.length) : ∃ a c, v = .slice a n c ∧ ∀ i (hi : i < l.length), ∃ g, a = some ⟨g, 0, none⟩ ∧ w.cell? ⟨g, i, none⟩ = some (.int .i64 l[i]) := by
  obtain ⟨a, c, rfl, _, h2⟩ := own_shape h
  refine ⟨a, c, rfl, fun i hi => ?_⟩
  obtain ⟨g, ha, _, hc⟩ := h2 (by omega)
  refine ⟨g, ha, ?_⟩
  have := hc i (by rw [ints_length]; exact hi)
  simpa [ints] using this

set_option maxRecDepth 100000 in
set_option maxHeartbeats 4000000 in
theorem compare_any (v1 v2 : Value) (b1 b2 n1 n2 : Nat) (l m : List Int) (w : World) (h1 : w.ownsRow b1 3 1 v1 n1 (ints l)) (h2 : w.ownsRow b2 3 1 v2 n2 (ints m)) (e1 : n1 = l.length) (e2 : n2 = m.length) (hl : n1 ≤ 1000) (hm : n2 ≤ 1000) :
    Calls Tryz.prog 41 #[v1, v2] w (fun e w' => e = .returned (.int .i64 (Kn.cmpL l m)) ∧ w' = w) := by
  obtain ⟨a1, c1, rfl, H1⟩ := own_int h1 e1; obtain ⟨a2, c2, rfl, H2⟩ := own_int h2 e2; have H1 := Lib.hid H1; have H2 := Lib.hid H2; have E1 := Lib.hid e1; have E2 := Lib.hid e2; clear h1 h2 e1 e2
  go_enter Tryz.func41, Tryz.ntmps41
  go_wp2
  go_loopw [11] (fun i wr => ∃ q : Nat, wr = w ∧ q ≤ n1 ∧ q ≤ n2 ∧ i = .int .i64 q ∧ Hid (Kn.cmpL l m = Kn.cmpL (l.drop q) (m.drop q))) (fun i _ => n1 - (intOf i).toNat)
  case atStart => exact ⟨0, rfl, by omega, by omega, rfl, Lib.hid rfl⟩
  case round =>
    obtain ⟨q, rfl, hq1, hq2, rfl, HQ⟩ := hrel
    by_cases hq : q < n1
    · obtain ⟨g, rfl, hc⟩ := H1.out q (by have := E1.out; omega)
      obtain ⟨x, HX⟩ : ∃ x, Hid (x = l[q]'(by have := E1.out; omega)) := ⟨_, Lib.hid rfl⟩
      rw [← HX.out] at hc
      have i1 : (0 : Int) ≤ (q : Int) := by omega
      have i2 : (q : Int) < (n1 : Int) := by omega
      by_cases hk : q < n2
      · obtain ⟨g2, rfl, hd⟩ := H2.out q (by have := E2.out; omega)
        obtain ⟨y, HY⟩ : ∃ y, Hid (y = m[q]'(by have := E2.out; omega)) := ⟨_, Lib.hid rfl⟩
        rw [← HY.out] at hd
        have i4 : (q : Int) < (n2 : Int) := by omega
        obtain ⟨z, HZ⟩ : ∃ z, Hid (z = Kn.cmpI x y) := ⟨_, Lib.hid rfl⟩
        have HS := Lib.hid (cmpL_step (l := l) (m := m) (i := q) (by have := E1.out; omega) (by have := E2.out; omega)); rw [← HX.out, ← HY.out, ← HZ.out, ← HQ.out] at HS
        by_cases hz : z = 0
        · have HS2 := Lib.hid (show Kn.cmpL l m = Kn.cmpL (l.drop (q + 1)) (m.drop (q + 1)) by have := HS.out; rwa [if_pos hz] at this)
          clear HS; subst hz
          go_wp2_with (go_at_call 72; refine (Tryz.cmp_Compare_int x y _).mono ?_; rintro e w5 ⟨rfl, rfl⟩; rw [cmpI_lib, ← HZ.out])
          go_roundw
          case rel => exact ⟨q + 1, by trivial, by omega, by omega, by go_num, HS2⟩
          case measure => simp [intOf]; omega
        · go_wp2_with (go_at_call 72; refine (Tryz.cmp_Compare_int x y _).mono ?_; rintro e w5 ⟨rfl, rfl⟩; rw [cmpI_lib, ← HZ.out])
          go_ret
          refine ⟨?_, rfl⟩
          have := HS.out; rw [if_neg hz] at this; rw [this]
          rfl
      · obtain rfl : q = n2 := by omega
        go_wp2; go_ret
        refine ⟨?_, rfl⟩
        rw [HQ.out, cmpL_more (by have := E1.out; omega) (by have := E2.out; omega)]
        rfl
    · obtain rfl : q = n1 := by omega
      have HD := Lib.hid (cmpL_done (l := l) (m := m) (i := q) (by have := E1.out; omega)); rw [← HQ.out, ← E2.out] at HD
      by_cases hk : q < n2
      · go_wp2
        go_ret
        refine ⟨?_, rfl⟩
        rw [HD.out, if_pos hk]
        rfl
      · obtain rfl : q = n2 := by omega
        go_wp2; go_ret
        refine ⟨?_, rfl⟩
        rw [HD.out, if_neg hk]
        rfl

theorem or_any (g c : Nat) (x y : Int) (w : World) (h0 : w.cell? ⟨g, 0, none⟩ = some (.int .i64 x)) (h1 : w.cell? ⟨g, 1, none⟩ = some (.int .i64 y)) :
    Calls Tryz.prog 44 #[.slice (some ⟨g, 0, none⟩) 2 c] w (fun e w' => e = .returned (.int .i64 (if x = 0 then y else x)) ∧ w' = w) := by
  go_enter Tryz.func44, Tryz.ntmps44
  go_wp2
  go_loopw [8] (fun i wr => ∃ q : Nat, wr = w ∧ q ≤ 2 ∧ i = .int .i64 q ∧ Hid ((0 < q → x = 0) ∧ (1 < q → y = 0))) (fun i _ => 2 - (intOf i).toNat)
  case atStart => exact ⟨0, rfl, by omega, rfl, Lib.hid ⟨by omega, by omega⟩⟩
  case round =>
    obtain ⟨q, rfl, hq, rfl, HQ⟩ := hrel
    rcases (show q = 0 ∨ q = 1 ∨ q = 2 by omega) with rfl | rfl | rfl
    · by_cases hx : x = 0
      · subst hx
        go_wp2
        go_roundw
        case rel => exact ⟨1, by trivial, by omega, by first | rfl | trivial, Lib.hid (by constructor <;> intro h <;> first | trivial | omega)⟩
        case measure => simp [intOf]
      · go_wp2
        go_ret
        exact ⟨by first | rfl | (rw [if_neg hx]; rfl), rfl⟩
    · have hx := HQ.out.1 (by omega)
      by_cases hy : y = 0
      · subst hy
        go_wp2
        go_roundw
        case rel => exact ⟨2, by trivial, by omega, by first | rfl | trivial, Lib.hid (by constructor <;> intro h <;> first | trivial | omega)⟩
        case measure => simp [intOf]
      · go_wp2
        go_ret
        exact ⟨by first | rfl | (rw [if_pos hx]; rfl), rfl⟩
    · have hx := HQ.out.1 (by omega)
      have hy := HQ.out.2 (by omega); go_wp2; go_ret
      exact ⟨by first | rfl | (rw [if_pos hx, hy]; rfl), rfl⟩
end Go.Proofs.YtgjmjbgicfkojaaGreat

/- Walks: Form$1. -/
namespace Go.Proofs.YtgjmjbgicfkojaaGreat
open Go.RowKit

set_option maxHeartbeats 4000000 in
theorem form1_any (va vb : Value) (b1 b2 : Nat) (x y : Kn.Vw) (w : World) (h1 : OwnV b1 w va x) (h2 : OwnV b2 w vb y) (l1 : x.1.length ≤ 1000) (l2 : x.2.length ≤ 1000) (l3 : y.1.length ≤ 1000) (l4 : y.2.length ≤ 1000) :
    Calls Tryz.prog 43 #[va, vb] w (fun e w' => e = .returned (.int .i64 (Kn.cmpV x y)) ∧ ∃ q os', w' = Go.Sort.grow (w.drewN q) os') := by
  obtain ⟨sa, sb, rfl, ha, hb⟩ := h1; obtain ⟨sc, sd, rfl, hc, hd⟩ := h2; obtain ⟨a1, c1, rfl, _⟩ := own_shape2 ha; obtain ⟨a2, c2, rfl, _⟩ := own_shape2 hb; obtain ⟨a3, c3, rfl, _⟩ := own_shape2 hc; obtain ⟨a4, c4, rfl, _⟩ := own_shape2 hd
  obtain ⟨n1, HN1⟩ : ∃ n, Hid (n = x.1.length) := ⟨_, Lib.hid rfl⟩
  obtain ⟨n2, HN2⟩ : ∃ n, Hid (n = x.2.length) := ⟨_, Lib.hid rfl⟩
  obtain ⟨n3, HN3⟩ : ∃ n, Hid (n = y.1.length) := ⟨_, Lib.hid rfl⟩
  obtain ⟨n4, HN4⟩ : ∃ n, Hid (n = y.2.length) := ⟨_, Lib.hid rfl⟩
  rw [← HN2.out] at hb l2 ⊢; rw [← HN4.out] at hd l4 ⊢; rw [← HN1.out] at l1 ⊢; rw [← HN3.out] at l3 ⊢; have HB := Lib.hid hb; have HD := Lib.hid hd; clear ha hb hc hd
  go_enter Tryz.func43, Tryz.ntmps43
  go_wp2_with fail
  obtain ⟨w1, HW1⟩ : ∃ w1, Hid (w1 = (w.alloc (.cells #[.slice a1 n1 c1, .slice a2 n2 c2] 94)).alloc (.cells #[.slice a3 n3 c3, .slice a4 n4 c4] 94)) := ⟨_, Lib.hid rfl⟩
  rw [← HW1.out]
  have hF : New w w1 := by rw [HW1.out]; exact ((Fr.refl _ _).alloc _).alloc _
  have q1 : w1.heap[w.heap.size]? = some (.cells #[.slice a1 n1 c1, .slice a2 n2 c2] 94 (0, 0)) := by rw [HW1.out]; exact (Below.heap_alloc _ _ _ (by simp)).trans (heap_alloc_new _ _)
  have q2 : w1.heap[w.heap.size + 1]? = some (.cells #[.slice a3 n3 c3, .slice a4 n4 c4] 94 (0, 0)) := by
    have := heap_alloc_new (w.alloc (.cells #[.slice a1 n1 c1, .slice a2 n2 c2] 94)) (.cells #[.slice a3 n3 c3, .slice a4 n4 c4] 94)
    rw [World.size_alloc, ← HW1.out] at this; exact this
  obtain ⟨k1, k2, _, _⟩ := box2_c q1; obtain ⟨k3, k4, _, _⟩ := box2_c q2; have HB1 := Lib.hid (hF.owns HB.out fun _ _ x => x); have HD1 := Lib.hid (hF.owns HD.out fun _ _ x => x); have HF := Lib.hid hF; clear hF q1 q2
  obtain ⟨cv, HCV⟩ : ∃ cv, Hid (cv = Kn.cmpL x.2 y.2) := ⟨_, Lib.hid rfl⟩
  obtain ⟨ov, HOV⟩ : ∃ ov, Hid (ov = if IntKind.i64.wrap ((n1 : Int) - (n3 : Int)) = 0 then cv else IntKind.i64.wrap ((n1 : Int) - (n3 : Int))) := ⟨_, Lib.hid rfl⟩
  have hov : Kn.cmpV x y = ov := by
    rw [HOV.out, HCV.out, IntWalk.i64_in _ (by omega), HN1.out, HN3.out]; rfl
  have HV := Lib.hid hov; clear hov
  go_region_held3 (fun w' => w'.cell? ⟨w.heap.size, 0, none⟩ = some (.slice a1 n1 c1) ∧ w'.cell? ⟨w.heap.size, 1, none⟩ = some (.slice a2 n2 c2) ∧ w'.cell? ⟨w.heap.size + 1, 0, none⟩ = some (.slice a3 n3 c3) ∧ w'.cell? ⟨w.heap.size + 1, 1, none⟩ = some (.slice a4 n4 c4))
    (first | assumption | go_keep)
    (first
      | (go_at_call 41; refine (compare_any _ _ _ _ n2 n4 x.2 y.2 _ (by first | exact HB1.out | exact (Fr.refl (fun _ => False) w1).drew.owns HB1.out fun _ _ x => x) (by first | exact HD1.out | exact (Fr.refl (fun _ => False) w1).drew.owns HD1.out fun _ _ x => x) HN2.out HN4.out l2 l4).mono ?_; rintro e w4 ⟨rfl, rfl⟩; rw [← HCV.out])
      | (go_at_call 44; refine (or_any w1.heap.size 2 (IntKind.i64.wrap ((n1 : Int) - (n3 : Int))) cv _ (by exact cell_two (w := w1) rfl 0 _ rfl) (by exact cell_two (w := w1) rfl 1 _ rfl)).mono ?_; rintro e w5 ⟨rfl, rfl⟩; rw [← HOV.out]))
  all_goals
    go_wp2; go_ret
    refine ⟨by rw [HV.out]; rfl, ?_⟩
    first
      | exact ⟨1, _, by rw [HW1.out, Go.Sort.alloc_eq_grow, Go.Sort.alloc_eq_grow, Go.Sort.alloc_eq_grow, Go.Sort.grow_grow, Go.Sort.grow_grow]; rfl⟩
      | exact ⟨0, _, by rw [HW1.out, Go.Sort.alloc_eq_grow, Go.Sort.alloc_eq_grow, Go.Sort.alloc_eq_grow, Go.Sort.grow_grow, Go.Sort.grow_grow]; rfl⟩
end Go.Proofs.YtgjmjbgicfkojaaGreat
