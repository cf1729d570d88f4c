/- Walks: normal forms are handed back, and compared. -/
import Derived.Test.YtlnmboiangnpfaaW13
namespace Go.Proofs.Ytlnmboiangnpfaa
open Go.RowKit

/- two lists of permutations are compared -/
set_option maxHeartbeats 400000 in
theorem sameOne_any (b c n : Nat) (p q : List Nat) (w : World) (hn : n ∈ Bd.ns) (hp : PermAt w b n p) (hq : PermAt w c n q) :
    Calls Try.prog 14 #[.slice (some ⟨b, 0, none⟩) (n + 1) (n + 1), .slice (some ⟨c, 0, none⟩) (n + 1) (n + 1)] w fun e w' => e = .returned (.bool (p == q)) ∧ New w w' := by
  have CC := Lib.hid (equal_any b c n p q w hn hp hq)
  clear hp hq hn
  go_enter Try.func14, Try.ntmps14
  go_wp2_with fail
  refine CC.out.mono ?_
  rintro e w' ⟨rfl, h⟩
  go_wp2
  go_ret
  exact ⟨rfl, h⟩

theorem list_ext {L M : List (List Nat)} (hl : L.length = M.length) (h : ∀ j, j < L.length → L.getD j [] = M.getD j []) : L = M := by
  apply List.ext_getElem hl
  intro j h1 h2
  have := h j h1
  rwa [List.getD_eq_getElem?_getD, List.getD_eq_getElem?_getD, List.getElem?_eq_getElem h1, List.getElem?_eq_getElem h2] at this

set_option maxHeartbeats 1000000 in
theorem equalFunc_any (a a' : Option Addr) (l l' c c' n : Nat) (L M : List (List Nat)) (w : World) (hl : l = L.length) (hl' : l' = M.length) (hn : n ∈ Bd.ns) (hx : FamR w a n L) (hy : FamR w a' n M) (lx : L.length ≤ 100) (_ly : M.length ≤ 100) :
    Calls Try.prog 13 #[.slice a l c, .slice a' l' c', .func (.func 14) #[] #[]] w fun e w' => e = .returned (.bool (L == M)) ∧ New w w' := by
  subst hl
  subst hl'
  have HX := Lib.hid hx
  have HY := Lib.hid hy
  have HN := Lib.hid hn
  clear hx hy hn
  by_cases hl : L.length = M.length
  · have hne : ((L.length : Int) != (M.length : Int)) = false := by rw [bne_eq_false_iff_eq]; omega
    have HL := Lib.hid hl
    clear hl
    go_enter Try.func13, Try.ntmps13
    go_wp2
    go_loopw [7, 8, 9, 17] (fun _ _ _ i wr => ∃ k : Nat, k ≤ L.length ∧ i = .int .i64 k ∧ Hid (New w wr) ∧ Hid (∀ j, j < k → L.getD j [] = M.getD j [])) (fun _ _ _ i _ => L.length - (intOf i).toNat)
    case atStart => exact ⟨0, by omega, rfl, Lib.hid (Fr.refl _ _), Lib.hid fun j h => by omega⟩
    case round =>
      obtain ⟨k, hk, rfl, HF, HK⟩ := hrel
      by_cases hlt : k < L.length
      · have hlt' : k < M.length := by have := HL.out; omega
        obtain ⟨g, o, b1, rfl, d1, p1⟩ := (HX.out.new HF.out).at hlt
        obtain ⟨g', o', b2, rfl, d2, p2⟩ := (HY.out.new HF.out).at hlt'
        have cc := sameOne_any b1 b2 n (L.getD k []) (M.getD k []) wr HN.out p1 p2
        clear p1 p2
        by_cases he : L.getD k [] = M.getD k []
        · have e1 : (L.getD k [] == M.getD k []) = true := by rw [beq_iff_eq]; exact he
          rw [e1] at cc
          have CC := Lib.hid cc
          have HE := Lib.hid he
          clear cc he e1
          go_wp2_with fail
          refine CC.out.mono ?_
          rintro e w2 ⟨rfl, h2⟩
          go_wp2
          go_roundw
          case rel =>
            refine ⟨k + 1, by omega, by go_num, Lib.hid (HF.out.trans h2), Lib.hid fun j hj => ?_⟩
            by_cases c : j = k
            · subst c; exact HE.out
            · exact HK.out j (by omega)
          case measure => simp [intOf]; omega
        · have e1 : (L.getD k [] == M.getD k []) = false := by rw [beq_eq_false_iff_ne]; exact he
          rw [e1] at cc
          have CC := Lib.hid cc
          have HE := Lib.hid he
          clear cc he e1
          go_wp2_with fail
          refine CC.out.mono ?_
          rintro e w2 ⟨rfl, h2⟩
          go_wp2
          go_ret
          refine ⟨ret_bool ?_, HF.out.trans h2⟩
          symm
          rw [beq_eq_false_iff_ne]
          intro e
          exact HE.out (by rw [e])
      · go_wp2
        go_ret
        refine ⟨ret_bool ?_, HF.out⟩
        symm
        rw [beq_iff_eq]
        exact list_ext HL.out fun j hj => HK.out j (by omega)
  · have hne : ((L.length : Int) != (M.length : Int)) = true := by rw [bne_iff_ne]; omega
    have HL := Lib.hid hl
    clear hl
    go_enter Try.func13, Try.ntmps13
    go_wp2
    go_ret
    refine ⟨ret_bool ?_, Fr.refl _ _⟩
    symm
    rw [beq_eq_false_iff_ne]
    exact fun e => HL.out (by rw [e])

theorem one_word {w0 : World} {a : Option Addr} {c : Nat} {xs : List Int} (hx : IntsAt w0 a xs) : WordsAt (w0.alloc (.cells #[.slice a xs.length c] 22)) w0.heap.size [xs] (fun _ => a) (fun _ => c) := by
  refine ⟨fun i hi => ?_, fun i hi => ?_⟩
  · have : i = 0 := by simp at hi; omega
    subst this
    exact cell_one_new w0 (.slice a xs.length c) 22 0 _ rfl
  · have : i = 0 := by simp at hi; omega
    subst this
    exact New.ints ((Fr.refl _ _).alloc _) hx
theorem two_wordsAt {w0 : World} {a a' : Option Addr} {c c' : Nat} {xs ys : List Int} (hx : IntsAt w0 a xs) (hy : IntsAt w0 a' ys) :
    WordsAt (w0.alloc (.cells #[.slice a xs.length c, .slice a' ys.length c'] 22)) w0.heap.size [xs, ys] (fun i => match i with | 0 => a | _ => a') (fun i => match i with | 0 => c | _ => c') := by
  have h := World.rowIs_alloc w0 #[.slice a xs.length c, .slice a' ys.length c'] 22 (fun i => match i with | 0 => .slice a xs.length c | _ => .slice a' ys.length c') (fun i hi => by
    match i, hi with
    | 0, _ => rfl
    | 1, _ => rfl)
  refine ⟨fun i hi => ?_, fun i hi => ?_⟩
  · match i, hi with
    | 0, _ => exact h.cell (i := 0) (by simp)
    | 1, _ => exact h.cell (i := 1) (by simp)
  · match i, hi with
    | 0, _ => exact New.ints ((Fr.refl _ _).alloc _) hx
    | 1, _ => exact New.ints ((Fr.refl _ _).alloc _) hy

/- Equal tells whether two normal forms are one -/
def EqualGave (n : Nat) (xs ys : List Int) (w : World) (e : Ending) (w' : World) : Prop :=
  ∃ (s t : Int × List (List Nat)), Bd.IsNf n (Bd.run n Bd.start xs) s ∧ Bd.IsNf n (Bd.run n Bd.start ys) t ∧ e = .returned (.tuple #[.bool (decide (s = t)), .int .i64 0]) ∧ New w w'

set_option maxHeartbeats 1000000 in
theorem braidEqual_any (a a' : Option Addr) (l l' c c' n : Nat) (i : Int) (xs ys : List Int) (w : World) (hi : i = n) (hl : l = xs.length) (hl' : l' = ys.length) (hn : n ∈ Bd.ns) (hx : IntsAt w a xs) (hy : IntsAt w a' ys) (lx : xs.length ≤ 20) (ly : ys.length ≤ 20) (wx : Bd.Word n xs) (wy : Bd.Word n ys) :
    Calls Try.prog 7 #[.int .i64 i, .slice a l c, .slice a' l' c'] w (EqualGave n xs ys w) := by
  subst hi
  subst hl
  subst hl'
  have hn5 := ns_le hn
  have HX := Lib.hid hx
  have HY := Lib.hid hy
  have HN := Lib.hid hn
  have HWx := Lib.hid wx
  have HWy := Lib.hid wy
  clear hx hy hn wx wy
  go_enter Try.func7, Try.ntmps7
  go_wp2_with fail
  refine (check_any _ 2 2 n n [xs, ys] _ _ _ rfl rfl (by simp) hn5.1 hn5.2 (two_wordsAt HX.out HY.out) (by simp [HWx.out, HWy.out, lx, ly])).mono ?_
  rintro e w1 ⟨rfl, h1⟩
  have HW1 : Hid (New w w1) := Lib.hid (((Fr.refl _ _).alloc _).trans h1)
  clear h1
  go_wp2_with fail
  refine (normal_any _ _ n n xs w1 rfl HN.out (New.ints HW1.out HX.out) lx HWx.out).mono ?_
  rintro e w2 ⟨p, a1, c1, M1, rfl, hr1, hm1, hw2, hnf1, hp1, hp1'⟩
  have HR1 := Lib.hid hr1
  have HW2 := Lib.hid (HW1.out.trans hw2)
  have HNF1 := Lib.hid hnf1
  clear hr1 hw2 hnf1
  go_wp2_with fail
  refine (normal_any _ _ n n ys w2 rfl HN.out (New.ints HW2.out HY.out) ly HWy.out).mono ?_
  rintro e w3 ⟨q, a2, c2, M2, rfl, hr2, hm2, hw3, hnf2, hq1, hq1'⟩
  have HR2 := Lib.hid hr2
  have HW3 := Lib.hid (HW2.out.trans hw3)
  have HR13 := Lib.hid (HR1.out.new hw3)
  have HNF2 := Lib.hid hnf2
  clear hr2 hw3 hnf2
  by_cases hpq : p = q
  · have e1 : (p == q) = true := by rw [beq_iff_eq]; exact hpq
    have HPQ := Lib.hid hpq
    clear hpq
    go_wp2_with fail
    refine (equalFunc_any a1 a2 M1.length M2.length c1 c2 n M1 M2 w3 rfl rfl HN.out HR13.out HR2.out hm1 hm2).mono ?_
    rintro e w4 ⟨rfl, h4⟩
    have HW4 := Lib.hid (HW3.out.trans h4)
    clear h4
    go_wp2
    go_ret2
    refine ⟨(p, M1), (q, M2), HNF1.out, HNF2.out, ?_, HW4.out⟩
    have hx : (M1 == M2) = decide ((p, M1) = (q, M2)) := by
      rw [HPQ.out, Bool.eq_iff_iff]
      simp
    rw [← hx]
    rfl
  · have e1 : (p == q) = false := by rw [beq_eq_false_iff_ne]; exact hpq
    have HPQ := Lib.hid hpq
    clear hpq
    go_wp2
    go_ret2
    refine ⟨(p, M1), (q, M2), HNF1.out, HNF2.out, ?_, HW3.out⟩
    have hx : decide ((p, M1) = (q, M2)) = false := by
      rw [decide_eq_false_iff_not]
      intro e
      exact HPQ.out (by simpa using congrArg Prod.fst e)
    rw [hx]
    rfl

/- permutations as Normal hands them back: without the first place -/
def tl (L : List (List Nat)) : List (List Int) := L.map fun p => p.tail.map Int.ofNat
theorem tl_get {L : List (List Nat)} {k : Nat} (hk : k < L.length) : (tl L).getD k [] = (L.getD k []).tail.map Int.ofNat := by
  simp [tl, List.getD_eq_getElem?_getD, hk]
theorem tl_length (L : List (List Nat)) : (tl L).length = L.length := by simp [tl]
theorem tl_inj {n : Nat} {L M : List (List Nat)} (hL : Bd.AllP n L) (hM : Bd.AllP n M) (h : tl L = tl M) : L = M := by
  have hlen : L.length = M.length := by rw [← tl_length L, h, tl_length]
  refine list_ext hlen fun k hk => ?_
  have hk' : k < M.length := by omega
  have e := congrArg (fun l => l.getD k []) h
  simp only [tl_get hk, tl_get hk'] at e
  have pl : L.getD k [] ∈ Bd.perms n := by
    rw [List.getD_eq_getElem?_getD, List.getElem?_eq_getElem hk]; exact hL _ (List.getElem_mem hk)
  have pm : M.getD k [] ∈ Bd.perms n := by
    rw [List.getD_eq_getElem?_getD, List.getElem?_eq_getElem hk']; exact hM _ (List.getElem_mem hk')
  have e2 : (L.getD k []).tail = (M.getD k []).tail := by
    have := congrArg (List.map Int.toNat) e
    simpa [List.map_map, Function.comp_def] using this
  have h0 : ∀ {p : List Nat}, p ∈ Bd.perms n → p = 0 :: p.tail := by
    intro p hp
    simp only [Bd.perms, List.mem_map] at hp
    obtain ⟨q, _, rfl⟩ := hp
    rfl
  rw [h0 pl, h0 pm, e2]

/- rows of numbers, to be read: row i has the numbers T i -/
def TabR (w : World) (a : Option Addr) (T : List (List Int)) : Prop :=
  T = [] ∨ ∃ g o, a = some ⟨g, o, none⟩ ∧ ∀ k, k < T.length → ∃ b c, w.cell? ⟨g, o + k, none⟩ = some (.slice b (T.getD k []).length c) ∧ IntsAt w b (T.getD k [])
theorem TabR.new {w w' : World} {a : Option Addr} {T : List (List Int)} (h : TabR w a T) (hn : New w w') : TabR w' a T := by
  rcases h with rfl | ⟨g, o, rfl, h⟩
  · exact .inl rfl
  · refine .inr ⟨g, o, rfl, fun k hk => ?_⟩
    obtain ⟨b, c, h1, h2⟩ := h k hk
    exact ⟨b, c, hn.cell h1 (fun x => x), New.ints hn h2⟩
theorem TabR.at {w : World} {a : Option Addr} {T : List (List Int)} (h : TabR w a T) {k : Nat} (hk : k < T.length) :
    ∃ g o b c, a = some ⟨g, o, none⟩ ∧ w.cell? ⟨g, o + k, none⟩ = some (.slice b (T.getD k []).length c) ∧ IntsAt w b (T.getD k []) := by
  rcases h with rfl | ⟨g, o, rfl, h⟩
  · simp at hk
  · obtain ⟨b, c, h1, h2⟩ := h k hk
    exact ⟨g, o, b, c, rfl, h1, h2⟩
theorem Tab.reads {w : World} {G n : Nat} {T : List (List Int)} (h : Tab w G n T) : TabR w (some ⟨G, 0, none⟩) T := by
  refine .inr ⟨G, 0, rfl, fun k hk => ?_⟩
  obtain ⟨a, c, h1, _, h2, _⟩ := h.at (i := k) (by rw [← h.1]; exact hk)
  exact ⟨a, c, by rw [Nat.zero_add]; exact h1, h2⟩

end Go.Proofs.Ytlnmboiangnpfaa
