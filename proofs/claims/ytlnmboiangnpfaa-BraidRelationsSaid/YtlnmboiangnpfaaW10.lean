/- Walks: what a word does to letters. -/
import Derived.Test.YtlnmboiangnpfaaW9
import Derived.Test.YtlnmboiangnpfaaMSame
namespace Go.Proofs.Ytlnmboiangnpfaa
open Go.RowKit

theorem Try.info22 : (Try.prog.info? 22).map (fun i => (i.zero, i.size, i.bytes)) = some (some (.slice none 0 0), 1, 24) := by kernel_rfl

/- a table of words: row block G -/
def Tab (w : World) (G n : Nat) (T : List (List Int)) : Prop :=
  T.length = n ∧ ∃ (A : Nat → Option Addr) (C : Nat → Nat), w.rowIs G 22 n (fun j => .slice (A j) (T.getD j []).length (C j)) ∧ ∀ j, j < n → IntsAt w (A j) (T.getD j []) ∧ ∀ b o, A j = some ⟨b, o, none⟩ → b ≠ G

theorem getD_set {α : Type} (T : List α) (i j : Nat) (x d : α) : (T.set i x).getD j d = if i = j ∧ j < T.length then x else T.getD j d := by
  simp only [List.getD_eq_getElem?_getD, List.getElem?_set]
  by_cases h : i = j
  · subst h
    by_cases h2 : i < T.length
    · simp [h2]
    · simp [h2]
  · simp [h]
theorem Tab.new {w w' : World} {G n : Nat} {T : List (List Int)} (h : Tab w G n T) (hn : New w w') : Tab w' G n T := by
  obtain ⟨hl, A, C, hr, hi⟩ := h
  exact ⟨hl, A, C, Fr.row hn hr (fun x => x), fun j hj => ⟨New.ints hn (hi j hj).1, (hi j hj).2⟩⟩
theorem Tab.set {w : World} {G n i c : Nat} {T : List (List Int)} {a : Option Addr} {xs : List Int} (h : Tab w G n T) (hi : i < n) (hx : IntsAt w a xs) (ha : ∀ b o, a = some ⟨b, o, none⟩ → b ≠ G) :
    Tab (w.setCell ⟨G, i, none⟩ (.slice a xs.length c)) G n (T.set i xs) := by
  obtain ⟨hl, A, C, hr, hin⟩ := h
  have hfr : Fr (· = G) w (w.setCell ⟨G, i, none⟩ (.slice a xs.length c)) := Fr.setCell (Fr.refl (· = G) w) (a := ⟨G, i, none⟩) (.inl rfl) _
  refine ⟨by simp [hl], fun j => if j = i then a else A j, fun j => if j = i then c else C j, (hr.set i _).congr fun j hj => ?_, fun j hj => ?_⟩
  · dsimp only
    rw [getD_set]
    by_cases e : j = i
    · subst e; simp [hl, hj]
    · have e' : ¬ (i = j ∧ j < T.length) := fun h => e h.1.symm
      simp only [e, e', if_false]
  · dsimp only
    rw [getD_set]
    by_cases e : j = i
    · subst e
      simp only [hl, hj, and_self, if_true]
      exact ⟨Fr.ints hfr hx fun b o e => ha b o e, ha⟩
    · have e' : ¬ (i = j ∧ j < T.length) := fun h => e h.1.symm
      simp only [e, e', if_false]
      exact ⟨Fr.ints hfr (hin j hj).1 fun b o e => (hin j hj).2 b o e, (hin j hj).2⟩
/- entry i of a table, read -/
theorem Tab.at {w : World} {G n : Nat} {T : List (List Int)} (h : Tab w G n T) {i : Nat} (hi : i < n) :
    ∃ a c, w.cell? ⟨G, i, none⟩ = some (.slice a (T.getD i []).length c) ∧ w.frozen? ⟨G, i, none⟩ = false ∧ IntsAt w a (T.getD i []) ∧ ∀ b o, a = some ⟨b, o, none⟩ → b ≠ G := by
  obtain ⟨hl, A, C, hr, hin⟩ := h
  exact ⟨A i, C i, hr.cell hi, hr.frozen i, (hin i hi).1, (hin i hi).2⟩

theorem Tab.place {w : World} {G n : Nat} {T : List (List Int)} (h : Tab w G n T) {i : Nat} (hi : i < n) :
    (∃ v, w.cell? ⟨G, i, none⟩ = some v) ∧ w.frozen? ⟨G, i, none⟩ = false ∧ G < w.heap.size := by
  obtain ⟨hl, A, C, hr, hin⟩ := h
  exact ⟨⟨_, hr.cell hi⟩, hr.frozen i, hr.lt⟩

/- how long words grow -/
def Bnd (m : Nat) (T : List (List Int)) : Prop := ∀ l ∈ T, l.length ≤ m ∧ Small l
theorem red_small : ∀ {u : List Int}, Small u → (Bd.red u).length ≤ u.length ∧ Small (Bd.red u)
  | [], h => ⟨Nat.le_refl _, h⟩
  | a :: u, h => by
    have ih := red_small (u := u) fun x hx => h x (by simp [hx])
    have ha := h a (by simp)
    show (Bd.push a (Bd.red u)).length ≤ _ ∧ Small (Bd.push a (Bd.red u))
    cases e : Bd.red u with
    | nil => exact ⟨by simp [Bd.push], fun x hx => by simp only [Bd.push, List.mem_singleton] at hx; subst hx; exact ha⟩
    | cons b t =>
      rw [e] at ih
      rw [Bd.push_cons]
      split
      · exact ⟨by have := ih.1; simp at this ⊢; omega, fun x hx => ih.2 x (by simp [hx])⟩
      · refine ⟨by have := ih.1; simp at this ⊢; omega, fun x hx => ?_⟩
        rcases List.mem_cons.1 hx with rfl | hx
        · exact ha
        · exact ih.2 x hx
theorem small_app {u v : List Int} (h : Small u) (h' : Small v) : Small (u ++ v) := fun x hx => by
  rcases List.mem_append.1 hx with hx | hx
  · exact h x hx
  · exact h' x hx
theorem small_rinv {u : List Int} (h : Small u) : Small (Bd.rinv u) := fun x hx => by
  have := h _ (Bd.mem_rinv hx); omega
theorem Bnd.get {m : Nat} {T : List (List Int)} (h : Bnd m T) (i : Nat) : (T.getD i []).length ≤ m ∧ Small (T.getD i []) := by
  rw [List.getD_eq_getElem?_getD]
  cases e : T[i]? with
  | none => exact ⟨Nat.zero_le _, fun x hx => by cases hx⟩
  | some l => exact h l (List.mem_of_getElem? e)
theorem Bnd.set {m : Nat} {T : List (List Int)} (h : Bnd m T) (i : Nat) {l : List Int} (h1 : l.length ≤ m) (h2 : Small l) : Bnd m (T.set i l) := fun x hx => by
  rcases List.mem_or_eq_of_mem_set hx with hx | rfl
  · exact h x hx
  · exact ⟨h1, h2⟩
theorem Bnd.mono {m m' : Nat} {T : List (List Int)} (h : Bnd m T) (hm : m ≤ m') : Bnd m' T := fun l hl => ⟨Nat.le_trans (h l hl).1 hm, (h l hl).2⟩
theorem bnd_aL {m : Nat} {T : List (List Int)} (h : Bnd m T) (x : Int) : Bnd (3 * m) (Bd.aL T x) := by
  have h' := h.mono (show m ≤ 3 * m by omega)
  have ga := h.get (x.natAbs - 1)
  have gb := h.get x.natAbs
  unfold Bd.aL
  dsimp only
  split
  · have s := small_app (small_app ga.2 gb.2) (small_rinv ga.2)
    have r := red_small s
    refine (h'.set _ ?_ r.2).set _ (by omega) ga.2
    have := r.1
    simp only [List.length_append, rinv_length] at this
    omega
  · have s := small_app (small_app (small_rinv gb.2) ga.2) gb.2
    have r := red_small s
    refine (h'.set _ (by omega) gb.2).set _ ?_ r.2
    have := r.1
    simp only [List.length_append, rinv_length] at this
    omega
theorem bnd_fold : ∀ (w : List Int) {m : Nat} {T : List (List Int)}, Bnd m T → Bnd (3 ^ w.length * m) (w.foldl Bd.aL T)
  | [], m, T, h => by simpa using h
  | x :: w, m, T, h => by
    have := bnd_fold w (bnd_aL h x)
    rw [List.length_cons, Nat.pow_succ, Nat.mul_assoc]
    exact this
theorem bnd_act (n : Nat) (hn : n ≤ 5) (w : List Int) : Bnd (3 ^ w.length) (Bd.actL n w) := by
  have h : Bnd 1 (Bd.iniL n) := by
    intro l hl
    simp only [Bd.iniL, List.mem_map, List.mem_range] at hl
    obtain ⟨k, hk, rfl⟩ := hl
    exact ⟨Nat.le_refl _, fun x hx => by rw [List.mem_singleton] at hx; omega⟩
  have := bnd_fold w h
  rwa [Nat.mul_one] at this
theorem bnd_take (n : Nat) (hn : n ≤ 5) (w : List Int) (k : Nat) (hk : k < 20) : Bnd 1162261467 (Bd.actL n (w.take k)) := by
  refine (bnd_act n hn _).mono ?_
  have h1 : (w.take k).length ≤ 19 := by have := List.length_take_le k w; omega
  exact Nat.le_trans (Nat.pow_le_pow_right (by omega) h1) (by decide)
theorem act_take {n k : Nat} {w : List Int} (hk : k < w.length) : Bd.actL n (w.take (k + 1)) = Bd.aL (Bd.actL n (w.take k)) (w.getD k 0) := by
  unfold Bd.actL
  rw [take_snoc hk, List.foldl_append]; rfl

/- a call that hands back a table, and OK -/
def GaveTab (n : Nat) (T : List (List Int)) (w : World) (e : Ending) (w' : World) : Prop :=
  ∃ G, e = .returned (.tuple #[.slice (some ⟨G, 0, none⟩) n n, .int .i64 0]) ∧ Tab w' G n T ∧ w.heap.size ≤ G ∧ New w w'

theorem word_small {n : Nat} (h5 : n ≤ 5) {xs : List Int} (h : Bd.Word n xs) : Small xs := fun x hx => by
  rcases h x hx with h | h <;> omega

def T1 (n k : Nat) : List (List Int) := (List.range n).map fun j => if j < k then [((j + 1 : Nat) : Int)] else []
theorem T1_get {n k j : Nat} (hj : j < n) : (T1 n k).getD j [] = if j < k then [((j + 1 : Nat) : Int)] else [] := by
  simp [T1, List.getD_eq_getElem?_getD, hj]
theorem T1_zero (n : Nat) : T1 n 0 = List.replicate n [] := by
  unfold T1
  apply List.ext_getElem (by simp)
  intro i h1 h2
  simp
theorem T1_all (n : Nat) : T1 n n = Bd.iniL n := by
  unfold T1 Bd.iniL
  apply List.map_congr_left
  intro j hj
  rw [if_pos (List.mem_range.1 hj)]
theorem T1_succ {n k : Nat} (_hk : k < n) : T1 n (k + 1) = (T1 n k).set k [((k + 1 : Nat) : Int)] := by
  apply List.ext_getElem (by simp [T1])
  intro i h1 h2
  simp only [T1, List.getElem_map, List.getElem_range, List.getElem_set]
  by_cases e : k = i
  · subst e; simp
  · rw [if_neg e]
    by_cases c : i < k
    · rw [if_pos c, if_pos (by omega)]
    · rw [if_neg c, if_neg (by omega)]
theorem ints_one_cell {w : World} {x : Int} : IntsAt (w.alloc (.cells #[.int .i64 x] 3)) (some ⟨w.heap.size, 0, none⟩) [x] :=
  .inr ⟨w.heap.size, 0, rfl, fun i hi => by
    have : i = 0 := by simp at hi; omega
    subst this
    exact cell_one_new w (.int .i64 x) 3 0 _ rfl⟩

theorem three_words {w0 w : World} (h : New w0 w) {L : Nat} {x y z : List Int} {ax ay az : Option Addr} {cx cy cz : Nat} (hx : IntsAt w0 ax x) (hy : IntsAt w0 ay y) (hz : IntsAt w0 az z)
    (h0 : w.cell? ⟨L, 0, none⟩ = some (.slice ax x.length cx)) (h1 : w.cell? ⟨L, 1, none⟩ = some (.slice ay y.length cy)) (h2 : w.cell? ⟨L, 2, none⟩ = some (.slice az z.length cz)) :
    WordsAt w L [x, y, z] (fun i => match i with | 0 => ax | 1 => ay | _ => az) (fun i => match i with | 0 => cx | 1 => cy | _ => cz) := by
  refine ⟨fun i hi => ?_, fun i hi => ?_⟩
  · match i, hi with
    | 0, _ => exact h0
    | 1, _ => exact h1
    | 2, _ => exact h2
  · match i, hi with
    | 0, _ => exact New.ints h hx
    | 1, _ => exact New.ints h hy
    | 2, _ => exact New.ints h hz
theorem cell_three (w : World) (x y z : Value) (t : TypeId) : (w.alloc (.cells #[x, y, z] t)).cell? ⟨w.heap.size, 0, none⟩ = some x ∧ (w.alloc (.cells #[x, y, z] t)).cell? ⟨w.heap.size, 1, none⟩ = some y ∧ (w.alloc (.cells #[x, y, z] t)).cell? ⟨w.heap.size, 2, none⟩ = some z := by
  have h := World.rowIs_alloc w #[x, y, z] t (fun i => match i with | 0 => x | 1 => y | _ => z) (fun i hi => by
    match i, hi with
    | 0, _ => rfl
    | 1, _ => rfl
    | 2, _ => rfl)
  exact ⟨h.cell (i := 0) (by simp), h.cell (i := 1) (by simp), h.cell (i := 2) (by simp)⟩
theorem flat3 (x y z : List Int) : prs [] [x, y, z].flatten = Bd.red (x ++ y ++ z) := by
  rw [prs_red]; simp [List.append_assoc]
theorem Tab.two {w : World} {G n t : Nat} {T : List (List Int)} (h : Tab w G n T) (ht : t + 1 < n) :
    ∃ v1 v2, w.cell? ⟨G, t, none⟩ = some v1 ∧ w.frozen? ⟨G, t, none⟩ = false ∧ ∀ X, (w.setCell ⟨G, t, none⟩ X).cell? ⟨G, t + 1, none⟩ = some v2 ∧ (w.setCell ⟨G, t, none⟩ X).frozen? ⟨G, t + 1, none⟩ = false := by
  obtain ⟨hl, A, C, hr, hin⟩ := h
  obtain ⟨d1, d2, f1, f2, g1, g2⟩ := two_cells hr (a := t) (c := t + 1) (by omega) ht (by omega)
  exact ⟨_, _, d1, f1, fun X => ⟨g1 X, g2 X⟩⟩

theorem aL_pos {T : List (List Int)} {t : Nat} : Bd.aL T ((t : Int) + 1) = (T.set t (Bd.red (T.getD t [] ++ T.getD (t + 1) [] ++ Bd.rinv (T.getD t [])))).set (t + 1) (T.getD t []) := by
  unfold Bd.aL
  have e : ((t : Int) + 1).natAbs = t + 1 := by omega
  dsimp only
  rw [e, if_pos (by omega), Nat.add_sub_cancel]
theorem aL_neg {T : List (List Int)} {t : Nat} : Bd.aL T (-((t : Int) + 1)) = (T.set t (T.getD (t + 1) [])).set (t + 1) (Bd.red (Bd.rinv (T.getD (t + 1) []) ++ T.getD t [] ++ T.getD (t + 1) [])) := by
  unfold Bd.aL
  have e : (-((t : Int) + 1)).natAbs = t + 1 := by omega
  dsimp only
  rw [e, if_neg (by omega), Nat.add_sub_cancel]

set_option maxHeartbeats 2000000 in
theorem act_any (a : Option Addr) (len c n : Nat) (i : Int) (xs : List Int) (w : World) (hi : i = n) (hlen : len = xs.length) (h2 : 2 ≤ n) (h5 : n ≤ 5) (hx : IntsAt w a xs) (lx : xs.length ≤ 20) (hw : Bd.Word n xs) :
    Calls Try.prog 16 #[.int .i64 i, .slice a len c] w (GaveTab n (Bd.actL n xs) w) := by
  subst hi
  subst hlen
  have hmk := run_make_row' (P := Try.prog) 32 22 (.slice none 0 0) 24 Try.underlying32 Try.info22 rfl .i64 .i64 n (by omega) (by omega)
  obtain ⟨w1, HW1⟩ : ∃ w1, Hid (w1 = w.alloc (.cells #[.slice a xs.length c] 22)) := ⟨_, Lib.hid rfl⟩
  have hn1 : New w w1 := by rw [HW1.out]; exact (Fr.refl _ _).alloc _
  have hws : WordsAt w1 w.heap.size [xs] (fun _ => a) (fun _ => c) := by
    refine ⟨fun i hi => ?_, fun i hi => ?_⟩
    · have : i = 0 := by simp at hi; omega
      subst this
      rw [HW1.out]
      exact cell_one_new w (.slice a xs.length c) 22 0 _ rfl
    · have : i = 0 := by simp at hi; omega
      subst this
      exact New.ints hn1 hx
  have cc := Lib.hid (check_any w.heap.size 1 1 n n [xs] (fun _ => a) (fun _ => c) w1 rfl rfl (by simp) h2 h5 hws (by simp [hw, lx]))
  have HX := Lib.hid hx
  have HWd := Lib.hid hw
  have HN1 := Lib.hid hn1
  clear hx hw hn1 hws
  go_enter Try.func16, Try.ntmps16
  go_wp2_with fail
  rw [← HW1.out]
  refine cc.out.mono ?_
  rintro e w2 ⟨rfl, hn2⟩
  have HN2 := Lib.hid (HN1.out.trans hn2)
  clear hn2 cc
  have hr := World.rowIs_made w2 (.slice none 0 0) n 22
  obtain ⟨G, HG⟩ : ∃ G, Hid (G = w2.heap.size) := ⟨_, Lib.hid rfl⟩
  obtain ⟨w3, HW3⟩ : ∃ w3, Hid (w3 = w2.alloc (.cells (madeCells #[.slice none 0 0] n) 22)) := ⟨_, Lib.hid rfl⟩
  rw [← HG.out, ← HW3.out] at hr
  have HN3 : Hid (New w w3) := Lib.hid (by rw [HW3.out]; exact HN2.out.alloc _)
  have HGw : Hid (w.heap.size ≤ G) := Lib.hid (by rw [HG.out]; exact HN2.out.size)
  have HT0 : Hid (Tab w3 G n (List.replicate n [])) := Lib.hid ⟨by simp, fun _ => none, fun _ => 0, hr.congr fun j hj => by simp [List.getD_eq_getElem?_getD, hj], fun j hj => ⟨.inl (by simp [List.getD_eq_getElem?_getD, hj]), fun b o e => by cases e⟩⟩
  clear hr
  go_wp2
  rw [← HG.out, ← HW3.out]
  clear hmk
  go_loopw [8, 26] (fun _ i wr => ∃ k : Nat, k ≤ n ∧ i = .int .i64 k ∧ Hid (Tab wr G n (T1 n k)) ∧ Hid (New w wr)) (fun _ i _ => n - (intOf i).toNat)
  case atStart => exact ⟨0, by omega, rfl, by rw [T1_zero]; exact HT0, HN3⟩
  case round =>
    obtain ⟨k, hk, rfl, HT, HF⟩ := hrel
    by_cases hlt : k < n
    · obtain ⟨⟨v1, hv1⟩, fv1, hG⟩ := (HT.out.new ((Fr.refl (fun _ => False) wr).alloc (.cells #[.int .i64 ((k : Int) + 1)] 3))).place hlt
      go_wp2
      go_roundw
      case rel =>
        have h1 := HT.out.new ((Fr.refl (fun _ => False) wr).alloc (.cells #[.int .i64 ((k : Int) + 1)] 3))
        have hG := (HT.out.place hlt).2.2
        have h2 := Tab.set (c := 1) h1 hlt (ints_one_cell (w := wr) (x := (k : Int) + 1)) (fun b o e => by cases e; omega)
        refine ⟨k + 1, by omega, by go_num, Lib.hid ?_, Lib.hid (Fr.setCell (Fr.alloc HF.out _) (a := ⟨G, k, none⟩) (.inr HGw.out) _)⟩
        rw [T1_succ hlt]
        exact h2
      case measure => simp [intOf]; omega
    · have ek : k = n := by omega
      rw [ek, T1_all] at HT
      clear ek
      go_wp2
      go_loopw [10, 11, 12, 13, 38] (fun _ _ _ _ i wr => ∃ k : Nat, k ≤ xs.length ∧ i = .int .i64 k ∧ Hid (Tab wr G n (Bd.actL n (xs.take k))) ∧ Hid (New w wr)) (fun _ _ _ _ i _ => xs.length - (intOf i).toNat)
      case atStart => exact ⟨0, by omega, rfl, HT, HF⟩
      case round =>
        obtain ⟨k, hk, rfl, HT, HF⟩ := hrel
        by_cases hlt : k < xs.length
        · obtain ⟨b, o, rfl, d1⟩ := (New.ints HF.out HX.out).at hlt
          obtain ⟨x, HXk⟩ : ∃ x, Hid (x = xs.getD k 0) := ⟨_, Lib.hid rfl⟩
          have hlet := word_get HWd.out hlt
          rw [← HXk.out] at d1 hlet
          have HTn : Hid (Bd.actL n (xs.take (k + 1)) = Bd.aL (Bd.actL n (xs.take k)) x) := Lib.hid (by rw [HXk.out]; exact act_take hlt)
          have hbnd := bnd_take n h5 xs k (by omega)
          obtain ⟨T, HTT⟩ : ∃ T, Hid (T = Bd.actL n (xs.take k)) := ⟨_, Lib.hid rfl⟩
          rw [← HTT.out] at HT hbnd HTn
          obtain ⟨t, HTt⟩ : ∃ t : Nat, Hid (t + 1 = x.natAbs) := ⟨x.natAbs - 1, Lib.hid (by have := let_bd hlet; omega)⟩
          have htn : t + 1 < n := by have := HTt.out; have := let_bd hlet; omega
          obtain ⟨ta, HTa⟩ : ∃ ta, Hid (ta = T.getD t []) := ⟨_, Lib.hid rfl⟩
          obtain ⟨tb, HTb⟩ : ∃ tb, Hid (tb = T.getD (t + 1) []) := ⟨_, Lib.hid rfl⟩
          obtain ⟨ba1, ba2⟩ := hbnd.get t
          obtain ⟨bb1, bb2⟩ := hbnd.get (t + 1)
          rw [← HTa.out] at ba1 ba2
          rw [← HTb.out] at bb1 bb2
          obtain ⟨aa, ca, hca, _, hia, hna⟩ := HT.out.at (i := t) (by omega)
          obtain ⟨ab, cb, hcb, _, hib, hnb⟩ := HT.out.at (i := t + 1) htn
          rw [← HTa.out] at hca hia
          rw [← HTb.out] at hcb hib
          have HB2a := Lib.hid ba2
          have HB2b := Lib.hid bb2
          have HIa := Lib.hid hia
          have HIb := Lib.hid hib
          have HNa := Lib.hid hna
          have HNb := Lib.hid hnb
          clear hia hib hna hnb hbnd ba2 bb2
          by_cases hpos : 0 < x
          · have hxe : x = (t : Int) + 1 := by have := HTt.out; omega
            have HE := Lib.hid hxe
            have hx1 : 1 ≤ x := by omega
            have hx5 : x ≤ 5 := by omega
            clear hlet
            subst hxe
            go_wp2
            go_quiet (fail)
            rename_i nq
            have HW4 := Lib.hid ((Fr.refl (fun _ => False) wr).drewN nq)
            go_wp2_with fail
            refine (reciprocal_any _ _ ta _ (New.ints HW4.out HIa.out) (by omega) HB2a.out).mono ?_
            rintro e w5 ⟨ra, rc, rfl, hir, hrn, hnr⟩
            have HIr := Lib.hid hir
            have HNr := Lib.hid hnr
            have HRn := Lib.hid hrn
            clear hir hnr hrn
            go_wp2_with fail
            have h3 := cell_three w5 (.slice aa ta.length ca) (.slice ab tb.length cb) (.slice ra (Bd.rinv ta).length rc) 22
            have HF5 := Lib.hid (HW4.out.trans HNr.out)
            refine (product_any w5.heap.size 3 3 [ta, tb, Bd.rinv ta] _ _ _ rfl (by simp) (three_words (w0 := w5) ((Fr.refl _ _).alloc _) (New.ints HF5.out HIa.out) (New.ints HF5.out HIb.out) HIr.out h3.1 h3.2.1 h3.2.2) ?hlenP ?hsmP).mono ?_
            case hlenP =>
              have hrl := rinv_length ta
              simp only [List.flatten_cons, List.flatten_nil, List.length_append, List.length_nil]
              omega
            case hsmP =>
              intro y hy
              simp only [List.mem_cons, List.not_mem_nil, or_false] at hy
              rcases hy with rfl | rfl | rfl
              · exact HB2a.out
              · exact HB2b.out
              · exact small_rinv HB2a.out
            rintro e w7 ⟨pa, pc, rfl, hip, hpn, hnp⟩
            clear h3
            obtain ⟨pw, HPw⟩ : ∃ pw, Hid (pw = prs [] [ta, tb, Bd.rinv ta].flatten) := ⟨_, Lib.hid rfl⟩
            rw [← HPw.out] at hip ⊢
            have HF7 : Hid (New wr w7) := Lib.hid ((HF5.out.alloc _).trans hnp)
            have HT7 := Lib.hid (HT.out.new HF7.out)
            have HIp := Lib.hid hip
            have HPn : Hid (G < w5.heap.size ∧ ∀ b o, pa = some ⟨b, o, none⟩ → b ≠ G) := Lib.hid (by
              have g1 := (HT.out.place (i := t) (by omega)).2.2
              have g2 := HF5.out.size
              refine ⟨by omega, fun b o e => ?_⟩
              have := hpn b o e
              simp at this
              omega)
            obtain ⟨v1, v2, c1, f1, g12⟩ := HT7.out.two htn
            have c2 := fun X => (g12 X).1
            have f2 := fun X => (g12 X).2
            clear g12 hip hpn hnp
            go_wp2
            go_roundw
            case rel =>
              refine ⟨k + 1, by omega, by go_num, ?_, Lib.hid (Fr.setCell (Fr.setCell (HF.out.trans HF7.out) (a := ⟨G, t, none⟩) (.inr HGw.out) _) (a := ⟨G, t + 1, none⟩) (.inr HGw.out) _)⟩
              rw [HTn.out, aL_pos, ← HTa.out, ← HTb.out, ← flat3, ← HPw.out]
              have s1 := Tab.set (c := pc) HT7.out (i := t) (by omega) HIp.out HPn.out.2
              exact Lib.hid (Tab.set (c := ca) s1 htn (Fr.ints (Fr.setCell (Fr.refl (· = G) w7) (a := ⟨G, t, none⟩) (.inl rfl) _) (New.ints HF7.out HIa.out) HNa.out) HNa.out)
            case measure => simp [intOf]; omega
          · have hxe : x = -((t : Int) + 1) := by have := HTt.out; have := let_bd hlet; omega
            have hx1 : x ≤ -1 := by omega
            have hx5 : -5 ≤ x := by omega
            clear hlet
            subst hxe
            go_wp2
            go_quiet (fail)
            rename_i nq
            have HW4 := Lib.hid ((Fr.refl (fun _ => False) wr).drewN nq)
            go_wp2_with fail
            refine (reciprocal_any _ _ tb _ (New.ints HW4.out HIb.out) (by omega) HB2b.out).mono ?_
            rintro e w5 ⟨ra, rc, rfl, hir, hrn, hnr⟩
            have HIr := Lib.hid hir
            have HNr := Lib.hid hnr
            have HRn := Lib.hid hrn
            clear hir hnr hrn
            go_wp2_with fail
            have h3 := cell_three w5 (.slice ra (Bd.rinv tb).length rc) (.slice aa ta.length ca) (.slice ab tb.length cb) 22
            have HF5 := Lib.hid (HW4.out.trans HNr.out)
            refine (product_any w5.heap.size 3 3 [Bd.rinv tb, ta, tb] _ _ _ rfl (by simp) (three_words (w0 := w5) ((Fr.refl _ _).alloc _) HIr.out (New.ints HF5.out HIa.out) (New.ints HF5.out HIb.out) h3.1 h3.2.1 h3.2.2) ?hlenN ?hsmN).mono ?_
            case hlenN =>
              have hrl := rinv_length tb
              simp only [List.flatten_cons, List.flatten_nil, List.length_append, List.length_nil]
              omega
            case hsmN =>
              intro y hy
              simp only [List.mem_cons, List.not_mem_nil, or_false] at hy
              rcases hy with rfl | rfl | rfl
              · exact small_rinv HB2b.out
              · exact HB2a.out
              · exact HB2b.out
            rintro e w7 ⟨pa, pc, rfl, hip, hpn, hnp⟩
            clear h3
            obtain ⟨pw, HPw⟩ : ∃ pw, Hid (pw = prs [] [Bd.rinv tb, ta, tb].flatten) := ⟨_, Lib.hid rfl⟩
            rw [← HPw.out] at hip ⊢
            have HF7 : Hid (New wr w7) := Lib.hid ((HF5.out.alloc _).trans hnp)
            have HT7 := Lib.hid (HT.out.new HF7.out)
            have HIp := Lib.hid hip
            have HPn : Hid (G < w5.heap.size ∧ ∀ b o, pa = some ⟨b, o, none⟩ → b ≠ G) := Lib.hid (by
              have g1 := (HT.out.place (i := t) (by omega)).2.2
              have g2 := HF5.out.size
              refine ⟨by omega, fun b o e => ?_⟩
              have := hpn b o e
              simp at this
              omega)
            obtain ⟨v1, v2, c1, f1, g12⟩ := HT7.out.two htn
            have c2 := fun X => (g12 X).1
            have f2 := fun X => (g12 X).2
            clear g12 hip hpn hnp
            go_wp2
            go_roundw
            case rel =>
              refine ⟨k + 1, by omega, by go_num, ?_, Lib.hid (Fr.setCell (Fr.setCell (HF.out.trans HF7.out) (a := ⟨G, t, none⟩) (.inr HGw.out) _) (a := ⟨G, t + 1, none⟩) (.inr HGw.out) _)⟩
              rw [HTn.out, aL_neg, ← HTa.out, ← HTb.out, ← flat3, ← HPw.out]
              have s1 := Tab.set (c := cb) HT7.out (i := t) (by omega) (New.ints HF7.out HIb.out) HNb.out
              exact Lib.hid (Tab.set (c := pc) s1 htn (Fr.ints (Fr.setCell (Fr.refl (· = G) w7) (a := ⟨G, t, none⟩) (.inl rfl) _) HIp.out HPn.out.2) HPn.out.2)
            case measure => simp [intOf]; omega
        · have ek : xs.take k = xs := List.take_of_length_le (by omega)
          rw [ek] at HT
          clear ek
          go_wp2
          have hb20 := (bnd_act n h5 xs).mono (Nat.le_trans (Nat.pow_le_pow_right (by omega) lx) (show 3 ^ 20 ≤ 4000000000 by decide))
          obtain ⟨T, HTT⟩ : ∃ T, Hid (T = Bd.actL n xs) := ⟨_, Lib.hid rfl⟩
          rw [← HTT.out] at HT hb20
          have HB20 := Lib.hid hb20
          clear hb20
          go_loopw [14, 89] (fun _ i wr => ∃ k : Nat, k ≤ n ∧ i = .int .i64 k ∧ Hid (Tab wr G n T) ∧ Hid (New w wr)) (fun _ i _ => n - (intOf i).toNat)
          case atStart => exact ⟨0, by omega, rfl, HT, HF⟩
          case round =>
            obtain ⟨k, hk, rfl, HT, HF⟩ := hrel
            by_cases hlt : k < n
            · obtain ⟨aa, ca, hca, _, hia, hna⟩ := HT.out.at hlt
              have hbl := (HB20.out.get k).1
              obtain ⟨ta, HTa⟩ : ∃ ta, Hid (ta = T.getD k []) := ⟨_, Lib.hid rfl⟩
              rw [← HTa.out] at hca hia hbl
              have HIa := Lib.hid hia
              have HNa := Lib.hid hna
              clear hia hna
              go_wp2_with fail
              refine (clone_any _ _ ta _ HIa.out hbl).mono ?_
              rintro e w5 ⟨ra, rc, rfl, hir, hrn, hnr⟩
              have HT5 := Lib.hid (HT.out.new hnr)
              obtain ⟨⟨v1, hv1⟩, fv1, hG⟩ := HT5.out.place hlt
              have HRn : Hid (∀ b o, ra = some ⟨b, o, none⟩ → b ≠ G) := Lib.hid fun b o e => by
                have g1 := (HT.out.place hlt).2.2
                have := hrn b o e
                omega
              have HIr := Lib.hid hir
              have HNr := Lib.hid hnr
              clear hir hrn hnr hG
              go_wp2
              go_roundw
              case rel =>
                refine ⟨k + 1, by omega, by go_num, ?_, Lib.hid (Fr.setCell (HF.out.trans HNr.out) (a := ⟨G, k, none⟩) (.inr HGw.out) _)⟩
                have s1 := Tab.set (c := rc) HT5.out hlt HIr.out HRn.out
                have e : T.set k ta = T := by
                  rw [HTa.out]
                  apply List.ext_getElem (by simp)
                  intro i h1 h2
                  rw [List.getElem_set]
                  split
                  · next h => subst h; rw [List.getD_eq_getElem?_getD, List.getElem?_eq_getElem h2]; rfl
                  · rfl
                rw [e] at s1
                exact Lib.hid s1
              case measure => simp [intOf]; omega
            · go_wp2
              go_ret2
              exact ⟨G, rfl, by rw [← HTT.out]; exact HT.out, HGw.out, HF.out⟩
end Go.Proofs.Ytlnmboiangnpfaa
