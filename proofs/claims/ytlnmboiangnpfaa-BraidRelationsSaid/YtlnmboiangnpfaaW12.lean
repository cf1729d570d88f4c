/- Walks: permutations that change nothing are left out of a list. -/
import Derived.Test.YtlnmboiangnpfaaW11
namespace Go.Proofs.Ytlnmboiangnpfaa
open Go.RowKit

/- where the first one is that changes nothing; -1: there is none -/
def Found (n : Nat) (L : List (List Nat)) (w : World) (e : Ending) (w' : World) : Prop :=
  ∃ r : Int, e = .returned (.int .i64 r) ∧ New w w' ∧ ((r = -1 ∧ ∀ j, j < L.length → L.getD j [] ≠ Bd.idn n) ∨ ∃ k : Nat, k < L.length ∧ r = k ∧ L.getD k [] = Bd.idn n ∧ ∀ j, j < k → L.getD j [] ≠ Bd.idn n)

set_option maxHeartbeats 400000 in
theorem found_any (a : Option Addr) (c g n : Nat) (L : List (List Nat)) (w : World) (hn : n ∈ Bd.ns) (hx : FamR w a n L) (lx : L.length ≤ 100) (hg : w.cell? ⟨g, 0, none⟩ = some (.int .i64 n)) :
    Calls Try.prog 36 #[.slice a L.length c, .func (.func 27) #[] #[.pointer (some ⟨g, 0, none⟩)]] w (Found n L w) := by
  have HX := Lib.hid hx
  have HG := Lib.hid hg
  have HN := Lib.hid hn
  clear hx hg hn
  go_enter Try.func36, Try.ntmps36
  go_wp2
  go_loopw [5, 8] (fun _ i wr => ∃ k : Nat, k ≤ L.length ∧ i = .int .i64 k ∧ Hid (New w wr) ∧ Hid (∀ j, j < k → L.getD j [] ≠ Bd.idn n)) (fun _ i _ => L.length - (intOf i).toNat)
  case atStart => exact ⟨0, by omega, rfl, Lib.hid (Fr.refl _ _), Lib.hid fun j h => by omega⟩
  case round =>
    obtain ⟨k, hk, rfl, HF, HK⟩ := hrel
    by_cases hlt : k < L.length
    · obtain ⟨gr, o, b, rfl, d1, hp⟩ := (HX.out.new HF.out).at hlt
      have cc := isOne_any b g n (L.getD k []) wr HN.out hp (HF.out.cell HG.out (fun x => x))
      by_cases he : L.getD k [] = Bd.idn n
      · have e1 : (L.getD k [] == Bd.idn n) = true := by rw [beq_iff_eq]; exact he
        rw [e1] at cc
        have CC := Lib.hid cc
        have HE := Lib.hid he
        clear cc he e1 hp
        go_wp2_with fail
        refine CC.out.mono ?_
        rintro e w2 ⟨rfl, h2⟩
        go_wp2
        go_ret
        exact ⟨(k : Int), rfl, HF.out.trans h2, .inr ⟨k, hlt, rfl, HE.out, HK.out⟩⟩
      · have e1 : (L.getD k [] == Bd.idn n) = false := by rw [beq_eq_false_iff_ne]; exact he
        rw [e1] at cc
        have CC := Lib.hid cc
        have HE := Lib.hid he
        clear cc he e1 hp
        go_wp2_with fail
        refine CC.out.mono ?_
        rintro e w2 ⟨rfl, h2⟩
        go_wp2
        go_roundw
        case rel =>
          refine ⟨k + 1, by omega, by go_num, Lib.hid (HF.out.trans h2), Lib.hid fun j hj => ?_⟩
          by_cases c : j = k
          · subst c; exact HE.out
          · exact HK.out j (by omega)
        case measure => simp [intOf]; omega
    · go_wp2
      go_ret
      exact ⟨-1, rfl, HF.out, .inl ⟨rfl, fun j hj => HK.out j (by omega)⟩⟩

/- while it is left out: i permutations are kept of the first j, at the row's head; from j on the row is as it was -/
structure Kept (base g c n : Nat) (bs : List Nat) (L : List (List Nat)) (w : World) (i j : Nat) : Prop where
  le : i ≤ j
  len : j ≤ L.length
  row : ∃ xs, w.ownsRow base 41 1 (.slice (some ⟨g, 0, none⟩) L.length c) L.length xs ∧ (∀ t, j ≤ t → t < L.length → xs[t]? = some (pv n (bs.getD t 0))) ∧
    ∃ fb : List Nat, fb.length = i ∧ ((L.take j).filter (· != Bd.idn n)).length = i ∧ (∀ t, t < i → xs[t]? = some (pv n (fb.getD t 0))) ∧ ∀ t, t < i → PermAt w (fb.getD t 0) n (((L.take j).filter (· != Bd.idn n)).getD t [])
  perms : ∀ k, k < L.length → PermAt w (bs.getD k 0) n (L.getD k [])

theorem own_ne {base : Nat} {w : World} {g c m n b : Nat} {xs : List Value} {p : List Nat} (h : w.ownsRow base 41 1 (.slice (some ⟨g, 0, none⟩) m c) m xs) (hp : PermAt w b n p) : b ≠ g := by
  rintro rfl
  rcases h.2 with ⟨h0, _⟩ | ⟨g', cap, cur, hv, hb, hg, _⟩
  · cases h0
  · cases hv
    obtain ⟨c', hc', _⟩ := hp.1
    rw [hg] at hc'
    cases hc'
theorem take_snoc' {α : Type} {l : List α} {k : Nat} (d : α) (hk : k < l.length) : l.take (k + 1) = l.take k ++ [l.getD k d] := by
  rw [List.take_succ_eq_append_getElem hk, List.getD_eq_getElem?_getD, List.getElem?_eq_getElem hk]; rfl

theorem Kept.new {base g c n : Nat} {bs : List Nat} {L : List (List Nat)} {w w' : World} {i j : Nat} (h : Kept base g c n bs L w i j) (hn : New w w') : Kept base g c n bs L w' i j := by
  obtain ⟨xs, h1, h2, fb, h3, h4, h5, h6⟩ := h.row
  exact ⟨h.le, h.len, ⟨xs, Fr.owns hn h1 (fun _ _ x => x), h2, fb, h3, h4, h5, fun t ht => New.perm hn (h6 t ht)⟩, fun k hk => New.perm hn (h.perms k hk)⟩
/- one that changes nothing is passed over -/
theorem Kept.skip {base g c n : Nat} {bs : List Nat} {L : List (List Nat)} {w : World} {i j : Nat} (h : Kept base g c n bs L w i j) (hj : j < L.length) (he : L.getD j [] = Bd.idn n) : Kept base g c n bs L w i (j + 1) := by
  obtain ⟨xs, h1, h2, fb, h3, h4, h5, h6⟩ := h.row
  have e : (L.take (j + 1)).filter (· != Bd.idn n) = (L.take j).filter (· != Bd.idn n) := by
    rw [take_snoc' [] hj, List.filter_append, he]; simp
  exact ⟨by have := h.le; omega, hj, ⟨xs, h1, fun t ht => h2 t (by omega), fb, h3, by rw [e]; exact h4, h5, by rw [e]; exact h6⟩, h.perms⟩
/- another one is kept -/
theorem Kept.keep {base g c n : Nat} {bs : List Nat} {L : List (List Nat)} {w : World} {i j : Nat} (h : Kept base g c n bs L w i j) (hj : j < L.length) (he : L.getD j [] ≠ Bd.idn n) :
    Kept base g c n bs L (w.setCell ⟨g, i, none⟩ (.slice (some ⟨bs.getD j 0, 0, none⟩) (n + 1) (n + 1))) (i + 1) (j + 1) := by
  obtain ⟨xs, h1, h2, fb, h3, h4, h5, h6⟩ := h.row
  have hfr : Fr (· = g) w (w.setCell ⟨g, i, none⟩ (.slice (some ⟨bs.getD j 0, 0, none⟩) (n + 1) (n + 1))) := Fr.setCell (Fr.refl (· = g) w) (a := ⟨g, i, none⟩) (.inl rfl) _
  have e : (L.take (j + 1)).filter (· != Bd.idn n) = (L.take j).filter (· != Bd.idn n) ++ [L.getD j []] := by
    have he' : (L.getD j [] != Bd.idn n) = true := by rw [bne_iff_ne]; exact he
    rw [take_snoc' [] hj, List.filter_append, List.filter_cons_of_pos (p := (· != Bd.idn n)) he', List.filter_nil]
  have hxl : xs.length = L.length := by have := h1.1; omega
  have hle := h.le
  have hpj := h.perms j hj
  refine ⟨by omega, hj, ⟨xs.set i (pv n (bs.getD j 0)), (h1.stored i (pv n (bs.getD j 0))).1, fun t ht htl => ?_, fb ++ [bs.getD j 0], by simp [h3], by rw [e]; simp [h4], fun t ht => ?_, fun t ht => ?_⟩, fun k hk => Fr.perm hfr (h.perms k hk) (own_ne h1 (h.perms k hk))⟩
  · rw [List.getElem?_set, if_neg (by omega)]; exact h2 t (by omega) htl
  · rw [List.getElem?_set]
    by_cases c : i = t
    · subst c
      rw [if_pos rfl, if_pos (by omega), ← h3, getD_app_last]
    · rw [if_neg c, getD_app_lt _ (by omega)]; exact h5 t (by omega)
  · rw [e]
    by_cases c : t < i
    · rw [getD_app_lt _ (by omega), getD_app_lt _ (by omega)]
      exact Fr.perm hfr (h6 t c) (own_ne h1 (h6 t c))
    · have : t = i := by omega
      subst this
      have x1 : (fb ++ [bs.getD j 0]).getD t 0 = bs.getD j 0 := by rw [← h3, getD_app_last]
      have x2 : ((L.take j).filter (· != Bd.idn n) ++ [L.getD j []]).getD t [] = L.getD j [] := by conv => lhs; rw [← h4]; rw [getD_app_last]
      rw [x1, x2]
      exact Fr.perm hfr hpj (own_ne h1 hpj)
theorem Kept.cells {base g c n : Nat} {bs : List Nat} {L : List (List Nat)} {w : World} {i j : Nat} (h : Kept base g c n bs L w i j) (hj : j < L.length) :
    w.cell? ⟨g, j, none⟩ = some (.slice (some ⟨bs.getD j 0, 0, none⟩) (n + 1) (n + 1)) ∧ (∃ v, w.cell? ⟨g, i, none⟩ = some v) ∧ w.frozen? ⟨g, i, none⟩ = false ∧ L.length ≤ c := by
  obtain ⟨xs, h1, h2, fb, h3, h4, h5, h6⟩ := h.row
  have hle := h.le
  have hxl : xs.length = L.length := by have := h1.1; omega
  refine ⟨?_, ?_, h1.frozenAt i, ?_⟩
  · rw [h1.cellAt j (by omega), h2 j (Nat.le_refl _) hj]; rfl
  · rw [h1.cellAt i (by omega), List.getElem?_eq_getElem (by omega)]; exact ⟨_, rfl⟩
  · rcases h1.2 with ⟨h0, _⟩ | ⟨g', cap, cur, hv, hb, hg, hn, _⟩
    · cases h0
    · cases hv; exact hn

theorem Fr.setCells {w0 : World} {S : Nat → Prop} {g : Nat} (hg : S g ∨ w0.heap.size ≤ g) : ∀ (vs : List Value) (o : Nat) {w : World}, Fr S w0 w → Fr S w0 (w.setCells g o vs)
  | [], _, _, h => h
  | v :: vs, o, _, h => Fr.setCells hg vs (o + 1) (h.setCell (a := ⟨g, o, none⟩) hg v)

/- what is left of a list -/
def Deleted (base n : Nat) (L : List (List Nat)) (w : World) (e : Ending) (w' : World) : Prop :=
  ∃ a c, e = .returned (.slice a (L.filter (· != Bd.idn n)).length c) ∧ FamR w' a n (L.filter (· != Bd.idn n)) ∧ (L.filter (· != Bd.idn n)).length ≤ c ∧ Fr (fun x => base ≤ x) w w'

theorem Kept.start {base g c n : Nat} {bs : List Nat} {L : List (List Nat)} {w : World} (h : Fam base w (some ⟨g, 0, none⟩) c n bs L) {k : Nat} (hk : k ≤ L.length) (hne : ∀ j, j < k → L.getD j [] ≠ Bd.idn n) : Kept base g c n bs L w k k := by
  have hl := h.len
  have e : (L.take k).filter (· != Bd.idn n) = L.take k := by
    rw [List.filter_eq_self]
    intro x hx
    obtain ⟨j, hj, rfl⟩ := List.mem_iff_getElem.1 hx
    rw [List.length_take] at hj
    have := hne j (by omega)
    rw [List.getD_eq_getElem?_getD, List.getElem?_eq_getElem (by omega)] at this
    rw [bne_iff_ne, List.getElem_take]
    exact this
  have hrow : ∀ t, t < L.length → (bs.map (pv n))[t]? = some (pv n (bs.getD t 0)) := fun t ht => by
    rw [List.getElem?_map, List.getElem?_eq_getElem (by omega), List.getD_eq_getElem?_getD, List.getElem?_eq_getElem (by omega)]; rfl
  refine ⟨Nat.le_refl _, hk, ⟨bs.map (pv n), h.1, fun t _ ht => hrow t ht, bs.take k, by simp; omega, by rw [e]; simp; omega, fun t ht => ?_, fun t ht => ?_⟩, h.2.2.1⟩
  · rw [hrow t (by omega)]
    simp [List.getD_eq_getElem?_getD, ht]
  · rw [e]
    have := h.2.2.1 t (by omega)
    simpa [List.getD_eq_getElem?_getD, List.getElem?_take, ht] using this

set_option maxHeartbeats 1000000 in
theorem delete_any (base : Nat) (a : Option Addr) (c gn n : Nat) (bs : List Nat) (L : List (List Nat)) (w : World) (hn : n ∈ Bd.ns) (hx : Fam base w a c n bs L) (lx : L.length ≤ 100) (hg : w.cell? ⟨gn, 0, none⟩ = some (.int .i64 n)) (hgb : gn < base) :
    Calls Try.prog 26 #[.slice a L.length c, .func (.func 27) #[] #[.pointer (some ⟨gn, 0, none⟩)]] w (Deleted base n L w) := by
  have cc := Lib.hid (found_any a c gn n L w hn hx.reads lx hg)
  have HX := Lib.hid hx
  have HG := Lib.hid hg
  have HN := Lib.hid hn
  have HGB := Lib.hid hgb
  clear hx hg hn hgb
  go_enter Try.func26, Try.ntmps26
  go_wp2_with fail
  refine cc.out.mono ?_
  rintro e w1 ⟨r, rfl, hw1, hr⟩
  have HW1 := Lib.hid hw1
  clear cc hw1
  rcases hr with ⟨rfl, hall⟩ | ⟨k, hk, rfl, hone, hbef⟩
  · have HA := Lib.hid hall
    clear hall
    go_wp2
    go_ret
    have e : L.filter (· != Bd.idn n) = L := by
      rw [List.filter_eq_self]
      intro x hx
      obtain ⟨j, hj, rfl⟩ := List.mem_iff_getElem.1 hx
      have := HA.out j hj
      rw [List.getD_eq_getElem?_getD, List.getElem?_eq_getElem hj] at this
      rw [bne_iff_ne]; exact this
    refine ⟨a, c, by rw [e]; rfl, by rw [e]; exact (HX.out.new HW1.out).reads, ?_, Fr.mono HW1.out fun _ x => x.elim⟩
    rw [e]
    rcases HX.out.1.2 with ⟨h0, h1⟩ | ⟨g', cap, cur, hv, hb, hg, hnc, _⟩
    · omega
    · cases hv; exact hnc
  · obtain ⟨g, rfl, hgB, _⟩ := HX.out.at hk
    have hne1 : ((k : Int) == -1) = false := by rw [beq_eq_false_iff_ne]; omega
    have HK0 := Lib.hid ((Kept.start (HX.out.new HW1.out) (by omega) hbef).skip hk hone)
    have HGB' := Lib.hid hgB
    clear hbef hone hgB
    go_wp2
    go_loopw [5, 6, 7] (fun i j _ wr => ∃ ki kj : Nat, ki < kj ∧ kj ≤ L.length ∧ i = .int .i64 ki ∧ j = .int .i64 kj ∧ Hid (Kept base g c n bs L wr ki kj) ∧ Hid (Fr (fun x => base ≤ x) w wr)) (fun _ j _ _ => L.length - (intOf j).toNat)
    case atStart => exact ⟨k, k + 1, by omega, by omega, rfl, by go_num, HK0, Lib.hid (Fr.mono HW1.out fun _ x => x.elim)⟩
    case round =>
      obtain ⟨i, j, hij, hj, rfl, rfl, HK, HF⟩ := hrel
      by_cases hlt : j < L.length
      · have hcj := (HK.out.cells hlt).1
        have hp := HK.out.perms j hlt
        have cc := isOne_any (bs.getD j 0) gn n (L.getD j []) wr HN.out hp (HF.out.cell HG.out (fun x => by have := HGB.out; simp only at x; omega))
        obtain ⟨bj, HBj⟩ : ∃ bj, Hid (bj = bs.getD j 0) := ⟨_, Lib.hid rfl⟩
        rw [← HBj.out] at hcj cc
        by_cases he : L.getD j [] = Bd.idn n
        · have e1 : (L.getD j [] == Bd.idn n) = true := by rw [beq_iff_eq]; exact he
          rw [e1] at cc
          have CC := Lib.hid cc
          have HE := Lib.hid he
          clear cc he e1 hp
          go_wp2_with fail
          refine CC.out.mono ?_
          rintro e w2 ⟨rfl, h2⟩
          go_wp2
          go_roundw
          case rel => exact ⟨i, j + 1, by omega, by omega, rfl, by go_num, Lib.hid ((HK.out.new h2).skip hlt HE.out), Lib.hid (HF.out.trans (Fr.mono h2 fun _ x => x.elim))⟩
          case measure => simp [intOf]; omega
        · have e1 : (L.getD j [] == Bd.idn n) = false := by rw [beq_eq_false_iff_ne]; exact he
          rw [e1] at cc
          have CC := Lib.hid cc
          have HE := Lib.hid he
          clear cc he e1 hp
          go_wp2_with fail
          refine CC.out.mono ?_
          rintro e w2 ⟨rfl, h2⟩
          have HK2 := Lib.hid (HK.out.new h2)
          obtain ⟨_, ⟨v2, hv2⟩, f2, _⟩ := HK2.out.cells hlt
          have H2 := Lib.hid h2
          clear h2
          go_wp2
          go_roundw
          case rel =>
            refine ⟨i + 1, j + 1, by omega, by omega, by go_num, by go_num, Lib.hid ?_, Lib.hid (Fr.setCell (HF.out.trans (Fr.mono H2.out fun _ x => x.elim)) (a := ⟨g, i, none⟩) (.inl HGB'.out) _)⟩
            rw [HBj.out]
            exact HK2.out.keep hlt HE.out
          case measure => simp [intOf]; omega
      · have ej : j = L.length := by omega
        rw [ej] at HK hij
        clear ej
        obtain ⟨xs, h1, h2, fb, h3, h4, h5, h6⟩ := HK.out.row
        rw [List.take_of_length_le (Nat.le_refl _)] at h4 h6
        have hxl : xs.length = L.length := by have := h1.1; omega
        have hcap : L.length ≤ c := by
          rcases h1.2 with ⟨h0, _⟩ | ⟨g', cap, cur, hv, hb, hg, hnc, _⟩
          · cases h0
          · cases hv; exact hnc
        have hz : ∀ w, (zeroValue 41).run Try.prog w = .ok (.slice none 0 0) w := fun w => by kernel_rfl
        have hclr := fun ty c' => Lib.run_clear_slice (P := Try.prog) wr 37 41 ty (.slice none 0 0) Try.underlying37 hz rfl rfl g i (L.length - i) c' (by omega) (fun t ht => by rw [h1.cellAt (i + t) (by omega), List.getElem?_eq_getElem (by omega)]; rfl) (fun t ht => h1.frozenAt (i + t))
        have H1 := Lib.hid h1
        have H2 := Lib.hid h2
        have H4 := Lib.hid h4
        have H5 := Lib.hid h5
        have H6 := Lib.hid h6
        have hci : ¬ c = i := by omega
        clear h1 h2 h4 h5 h6 hz hxl h3
        go_wp2
        go_ret
        have hfr : Fr (fun x => base ≤ x) w (wr.setCells g i (List.replicate (L.length - i) (.slice none 0 0))) := Fr.setCells (.inl HGB'.out) _ _ HF.out
        have hfg : Fr (· = g) wr (wr.setCells g i (List.replicate (L.length - i) (.slice none 0 0))) := Fr.setCells (S := (· = g)) (.inl rfl) _ _ (Fr.refl _ _)
        have h1 := H1.out
        have hxl : xs.length = L.length := by have := h1.1; omega
        refine ⟨some ⟨g, 0, none⟩, c, by rw [H4.out]; rfl, ?_, by rw [H4.out]; omega, hfr⟩
        refine .inr ⟨g, 0, rfl, fun t ht => ?_⟩
        rw [H4.out] at ht
        refine ⟨fb.getD t 0, ?_, Fr.perm hfg (H6.out t ht) (own_ne h1 (H6.out t ht))⟩
        rw [World.cell?_setCells_out _ _ _ _ _ (fun _ _ => by simp; omega), Nat.zero_add, h1.cellAt t (by omega), H5.out t ht]
        rfl
end Go.Proofs.Ytlnmboiangnpfaa
