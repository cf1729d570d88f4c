/- Walks: the normal form of a word: its letters. -/
import Derived.Test.YtlnmboiangnpfaaW12
import Derived.StillTailTactics
import Derived.Deep.DeepCutAuto
import Derived.Deep.RegionWith
namespace Go.Proofs.Ytlnmboiangnpfaa
open Go.RowKit

theorem own_ne' {base : Nat} {w : World} {v : Value} {m n b : Nat} {xs : List Value} {p : List Nat} (h : w.ownsRow base 41 1 v m xs) (hp : PermAt w b n p) : ¬ some b = v.ownBlock := by
  rcases h.2 with ⟨rfl, _⟩ | ⟨g', cap, cur, rfl, hb, hg, _⟩
  · simp [Value.ownBlock]
  · simp only [Value.ownBlock, Option.some.injEq]
    rintro rfl
    obtain ⟨c', hc', _⟩ := hp.1
    rw [hg] at hc'
    cases hc'
/- an append of a new permutation -/
theorem Fam.grown {base : Nat} {w w' : World} {o : Obj} {a : Option Addr} {c n b : Nat} {bs : List Nat} {L : List (List Nat)} {p : List Nat} {v' : Value} (h : Fam base w a c n bs L) (hb : b ∉ bs) (hbase : base ≤ b) (hp : PermAt w b n p)
    (ho : w'.ownsRow base 41 1 v' (L.length + 1) (bs.map (pv n) ++ [pv n b])) (hg : (w.alloc o).grownBy w' (Value.slice a L.length c).ownBlock) :
    ∃ a' c', v' = .slice a' (L ++ [p]).length c' ∧ Fam base w' a' c' n (bs ++ [b]) (L ++ [p]) := by
  have hfr : Fr (fun x => some x = (Value.slice a L.length c).ownBlock) w w' := ((Fr.refl _ _).alloc o).grown hg fun k e => .inl e.symm
  exact Fam.app ho h.len h.2.1 hb hbase h.2.2.2 (fun k hk => Fr.perm hfr (h.2.2.1 k hk) (own_ne' h.1 (h.2.2.1 k hk))) (Fr.perm hfr hp (own_ne' h.1 hp))
theorem New.own41 {w1 w w' : World} {o : Obj} {v : Value} {m : Nat} {xs : List Value} (h : New w1 w) (ho : w.ownsRow w1.heap.size 41 1 v m xs) (hg : (w.alloc o).grownBy w' v.ownBlock) : New w1 w' :=
  (Fr.alloc h o).grown hg fun k e => .inr (ho.lt k e).1
theorem fresh_not {base : Nat} {w : World} {a : Option Addr} {c n b : Nat} {bs : List Nat} {L : List (List Nat)} (h : Fam base w a c n bs L) (hb : w.heap.size ≤ b) : b ∉ bs := fun hm => by
  have := h.mem_lt b hm; omega

/- flipped as far as j -/
def fl (n j : Nat) (L : List (List Nat)) : List (List Nat) := (L.take j).map (Bd.flp n) ++ L.drop j
theorem fl_length (n j : Nat) (L : List (List Nat)) : (fl n j L).length = L.length := by
  simp [fl]; omega
theorem fl_zero (n : Nat) (L : List (List Nat)) : fl n 0 L = L := by simp [fl]
theorem fl_all (n : Nat) (L : List (List Nat)) : fl n L.length L = L.map (Bd.flp n) := by simp [fl]
theorem fl_get {n j : Nat} {L : List (List Nat)} (hj : j < L.length) : (fl n j L).getD j [] = L.getD j [] := by
  simp only [fl, List.getD_eq_getElem?_getD]
  rw [List.getElem?_append_right (by simp; omega)]
  simp [show j - min j L.length = 0 from by omega]
theorem fl_succ {n j : Nat} {L : List (List Nat)} (hj : j < L.length) : fl n (j + 1) L = (fl n j L).set j (Bd.flp n (L.getD j [])) := by
  unfold fl
  rw [take_snoc' [] hj, List.map_append, List.append_assoc, List.set_append_right _ _ (by simp; omega)]
  have e : L.drop j = L.getD j [] :: L.drop (j + 1) := by
    rw [List.getD_eq_getElem?_getD, List.getElem?_eq_getElem hj]
    exact (List.getElem_cons_drop hj).symm
  rw [e]
  simp [show j - min j L.length = 0 from by omega]

theorem step_len {n : Nat} {L M : List (List Nat)} (h : Bd.Step n L M) : M.length = L.length := by
  induction h with
  | here => simp
  | there _ ih => simp only [List.length_cons]; rw [ih]
theorem steps_len {n : Nat} {L M : List (List Nat)} (h : Bd.Steps n L M) : M.length = L.length := by
  induction h with
  | refl => rfl
  | head s _ ih => rw [ih, step_len s]
theorem step_at {n i : Nat} : ∀ {L : List (List Nat)} {k : Nat}, k + 1 < L.length → Bd.firstI n (L.getD k []) (L.getD (k + 1) []) = some i → Bd.Step n L ((L.set k (Bd.thn (L.getD k []) i)).set (k + 1) (Bd.swp (L.getD (k + 1) []) i))
  | [], _, h, _ => by simp at h
  | [_], _, h, _ => by simp at h
  | p :: q :: B, 0, _, h => by
    have h1 := List.find?_some h
    have h2 := List.mem_of_find?_eq_some h
    simp only [Bool.and_eq_true, Bool.not_eq_true'] at h1
    exact .here h2 h1.1 h1.2
  | p :: q :: B, k + 1, hk, h => by
    exact .there (step_at (L := q :: B) (k := k) (by simp at hk ⊢; omega) h)
def Fine (n : Nat) (L : List (List Nat)) (m : Nat) : Prop := ∀ i ∈ Bd.lets n, Bd.starts (L.getD (m + 1) []) i = true → Bd.ends (L.getD m []) i = true
theorem lw_of_fine {n : Nat} : ∀ {L : List (List Nat)}, (∀ m, m + 1 < L.length → Fine n L m) → Bd.LW n L
  | [], _ => trivial
  | [_], _ => trivial
  | p :: q :: B, h => ⟨h 0 (by simp), lw_of_fine (L := q :: B) fun m hm => h (m + 1) (by simp at hm ⊢; omega)⟩
theorem fine_of_none {n m : Nat} {L : List (List Nat)} (h : Bd.firstI n (L.getD m []) (L.getD (m + 1) []) = none) : Fine n L m := by
  intro i hi hs
  have := List.find?_eq_none.1 h i hi
  simp only [hs, Bool.true_and, Bool.not_eq_true', Bool.not_eq_false] at this
  exact this
theorem set_self {α : Type} {L : List α} {k : Nat} {d : α} : L.set k (L.getD k d) = L := by
  apply List.ext_getElem (by simp)
  intro i h1 h2
  rw [List.getElem_set]
  split
  · next h => subst h; rw [List.getD_eq_getElem?_getD, List.getElem?_eq_getElem h2]; rfl
  · rfl

theorem famR_tail {w : World} {g o n : Nat} {p : List Nat} {M : List (List Nat)} (h : FamR w (some ⟨g, o, none⟩) n (p :: M)) : FamR w (some ⟨g, o + 1, none⟩) n M := by
  rcases h with h | ⟨g', o', e, h⟩
  · cases h
  · cases e
    refine .inr ⟨g, o + 1, rfl, fun k hk => ?_⟩
    obtain ⟨b, h1, h2⟩ := h (k + 1) (by simpa using hk)
    exact ⟨b, by rw [show o + 1 + k = o + (k + 1) from by omega]; exact h1, by simpa using h2⟩
theorem strip_of {n j : Nat} {pw : Int} {N M : List (List Nat)} (h : N.filter (· != Bd.idn n) = List.replicate j (Bd.delta n) ++ M) (hM : M.head? ≠ some (Bd.delta n)) : Bd.strip n pw N = (pw + j, M) := by
  unfold Bd.strip
  simp only [h]
  have ht : ∀ j, ((List.replicate j (Bd.delta n) ++ M).takeWhile (· == Bd.delta n)).length = j ∧ (List.replicate j (Bd.delta n) ++ M).dropWhile (· == Bd.delta n) = M := by
    intro j
    induction j with
    | zero =>
      cases M with
      | nil => exact ⟨rfl, rfl⟩
      | cons q M =>
        have hq : (q == Bd.delta n) = false := by rw [beq_eq_false_iff_ne]; intro e; exact hM (by rw [e]; rfl)
        simp [hq]
    | succ j ih =>
      simp only [List.replicate_succ, List.cons_append, List.takeWhile_cons, List.dropWhile_cons, beq_self_eq_true, if_true, List.length_cons]
      exact ⟨by rw [ih.1], ih.2⟩
  rw [(ht j).1, (ht j).2]

/- what normal hands back -/
def NormalGave (n : Nat) (xs : List Int) (w : World) (e : Ending) (w' : World) : Prop :=
  ∃ (p : Int) (a : Option Addr) (c : Nat) (M : List (List Nat)), e = .returned (.tuple #[.int .i64 p, .slice a M.length c]) ∧ FamR w' a n M ∧ M.length ≤ 100 ∧ New w w' ∧ Bd.IsNf n (Bd.run n Bd.start xs) (p, M) ∧ -100 ≤ p ∧ p ≤ 100

theorem run_take {n k : Nat} {xs : List Int} (hk : k < xs.length) : Bd.run n Bd.start (xs.take (k + 1)) = Bd.letter n (Bd.run n Bd.start (xs.take k)) (xs.getD k 0) := by
  rw [take_snoc hk, Bd.run_app]; rfl

set_option maxHeartbeats 4000000 in
theorem normal_any (a : Option Addr) (c n : Nat) (i : Int) (xs : List Int) (w : World) (hi : i = n) (hn : n ∈ Bd.ns) (hx : IntsAt w a xs) (lx : xs.length ≤ 20) (hw : Bd.Word n xs) :
    Calls Try.prog 12 #[.int .i64 i, .slice a xs.length c] w (NormalGave n xs w) := by
  subst hi
  have hn5 := ns_le hn
  obtain ⟨i0, hi, hz0, hz1, hz2⟩ := info_parts Try.info41
  obtain ⟨gN, HGe⟩ : ∃ g, Hid (g = w.heap.size) := ⟨_, Lib.hid rfl⟩
  obtain ⟨w1, HW1⟩ : ∃ w1, Hid (w1 = w.alloc (.cells #[.int .i64 (n : Int)] 3)) := ⟨_, Lib.hid rfl⟩
  have hg : Hid (w1.cell? ⟨gN, 0, none⟩ = some (.int .i64 n)) := Lib.hid (by rw [HGe.out, HW1.out]; exact cell_one_new w (.int .i64 (n : Int)) 3 0 _ rfl)
  have HN1 : Hid (New w w1) := Lib.hid (by rw [HW1.out]; exact (Fr.refl _ _).alloc _)
  have HB : Hid (gN < w1.heap.size) := Lib.hid (by rw [HGe.out, HW1.out]; simp)
  have HX := Lib.hid (New.ints HN1.out hx)
  have HWd := Lib.hid hw
  have HN := Lib.hid hn
  clear hx hw hn
  go_enter Try.func12, Try.ntmps12
  go_wp2
  rw [← HW1.out, ← HGe.out]
  go_loopw [6, 7, 9, 10, 11, 12, 13, 18] (fun p v _ _ _ _ _ i wr => ∃ (k : Nat) (a' : Option Addr) (c' : Nat) (bs : List Nat) (pw : Int) (L : List (List Nat)), k ≤ xs.length ∧ i = .int .i64 k ∧ p = .int .i64 pw ∧ v = .slice a' L.length c' ∧ L.length ≤ k ∧ -(k : Int) ≤ pw ∧ pw ≤ k ∧ Hid (Fam w1.heap.size wr a' c' n bs L) ∧ Hid (New w1 wr) ∧ Hid (Bd.run n Bd.start (xs.take k) = (pw, L))) (fun _ _ _ _ _ _ _ i _ => xs.length - (intOf i).toNat)
  case atStart => exact ⟨0, none, 0, [], 0, [], by omega, rfl, rfl, rfl, by simp, by omega, by omega, Lib.hid (fam_nil _ _ _), Lib.hid (Fr.refl _ _), Lib.hid rfl⟩
  case round =>
    obtain ⟨k, a', c', bs, pw, L, hk, rfl, rfl, rfl, hlk, hp1, hp2, HF, HW, HR⟩ := hrel
    by_cases hlt : k < xs.length
    · obtain ⟨b, o, rfl, d1⟩ := (New.ints HW.out HX.out).at hlt
      obtain ⟨x, HXk⟩ : ∃ x, Hid (x = xs.getD k 0) := ⟨_, Lib.hid rfl⟩
      have hlet := word_get HWd.out hlt
      rw [← HXk.out] at d1 hlet
      have HRn : Hid (Bd.run n Bd.start (xs.take (k + 1)) = Bd.letter n (pw, L) x) := Lib.hid (by rw [HXk.out, ← HR.out]; exact run_take hlt)
      have hcN := HW.out.cell hg.out (fun x => x)
      by_cases hpos : 0 < x
      · have hx5 : x < n := by have := let_bd hlet; omega
        clear hlet
        go_wp2_with fail
        refine (identity_any n n _ rfl HN.out).mono ?_
        rintro e w2 ⟨b2, hb2, rfl, hp2', hw2⟩
        have HP2 := Lib.hid hp2'
        have HW2 := Lib.hid hw2
        have HB2 := Lib.hid hb2
        clear hp2' hw2 hb2
        go_wp2_with fail
        refine (then_any b2 n _ _ w2 HN.out (by omega) hx5 HP2.out).mono ?_
        rintro e w3 ⟨rfl, hp3, hf3⟩
        have HW3 : Hid (New wr w3) := Lib.hid (Fr.next HW2.out hf3 fun i hi => by right; rw [hi]; exact HB2.out)
        have HP3 := Lib.hid hp3
        have HF3 := Lib.hid (HF.out.new HW3.out)
        clear hp3 hf3
        go_wp2_with (at_builtin; refine wpList_append_own _ rfl _ _ 37 rfl w1.heap.size 41 i0 (.slice none 0 0) 1 24 Try.underlying37 hi hz0 hz1 hz2 rfl (by decide) _ L.length (bs.map (pv n)) rfl ?c0 ⟨_, 0, none⟩ 1 1 [pv n b2] rfl rfl ?c2 ?c3 ?c4 ?c5 ?c6 ?_)
        case c0 => exact World.ownsRow.alloc HF3.out.1 _
        case c2 => exact cell_one_new _ _ _
        case c3 => intro u hu; rw [List.mem_singleton] at hu; subst hu; rfl
        case c4 => unfold maxLen; omega
        case c5 => omega
        case c6 => have := (HW.out.trans HW3.out).size; simp; omega
        intro v' w4 hown hgrow _
        have hb2s : w1.heap.size ≤ b2 := by have := HB2.out; have := HW.out.size; omega
        obtain ⟨a4, c4, rfl, h4⟩ := HF3.out.grown (fresh_not HF.out HB2.out) hb2s HP3.out hown hgrow
        have HF4 := Lib.hid h4
        have HW4 : Hid (New w1 w4) := Lib.hid (New.own41 (HW.out.trans HW3.out) HF3.out.1 hgrow)
        clear hown hgrow h4 hb2s
        have HRn2 : Hid (Bd.run n Bd.start (xs.take (k + 1)) = (pw, L ++ [Bd.thn (Bd.idn n) x.toNat])) := Lib.hid (by rw [HRn.out]; unfold Bd.letter; rw [if_pos hpos]; rfl)
        go_wp2
        go_roundw
        case rel => exact ⟨k + 1, a4, c4, bs ++ [b2], pw, L ++ [Bd.thn (Bd.idn n) x.toNat], by omega, by go_num, rfl, by simp, by simp; omega, by omega, by omega, HF4, HW4, HRn2⟩
        case measure => simp [intOf]; omega
      · have hx5 : -(n : Int) < x := by have := let_bd hlet; omega
        have hx0 : x ≤ -1 := by have := let_bd hlet; omega
        clear hlet
        go_wp2
        go_loopw [12, 39] (fun _ i wr => ∃ (j : Nat) (bs' : List Nat), j ≤ L.length ∧ i = .int .i64 j ∧ Hid (Fam w1.heap.size wr a' c' n bs' (fl n j L)) ∧ Hid (New w1 wr)) (fun _ i _ => L.length - (intOf i).toNat)
        case atStart => exact ⟨0, bs, by omega, rfl, by rw [fl_zero]; exact HF, HW⟩
        case round =>
          obtain ⟨j, bs', hj, rfl, HF, HW⟩ := hrel
          have hfl := fl_length n j L
          by_cases hjl : j < L.length
          · obtain ⟨g, rfl, hgB, hcap, hc1, hf1, hpj⟩ := HF.out.at (k := j) (by omega)
            rw [fl_get hjl] at hpj
            obtain ⟨bj, HBj⟩ : ∃ bj, Hid (bj = bs'.getD j 0) := ⟨_, Lib.hid rfl⟩
            rw [← HBj.out] at hc1 hpj
            have cc := Lib.hid (flipped_any bj n (L.getD j []) _ HN.out hpj)
            have HGB := Lib.hid hgB
            clear hpj hf1 hcap hgB hfl
            go_wp2_with fail
            refine cc.out.mono ?_
            rintro e w2 ⟨b2, hb2, rfl, hp2', hw2⟩
            have HF2 := Lib.hid (HF.out.new hw2)
            obtain ⟨g', eg, _, _, hc2, hf2, _⟩ := HF2.out.at (k := j) (by have := fl_length n j L; omega)
            cases eg
            rw [← HBj.out] at hc2
            have HP2 := Lib.hid hp2'
            have HW2 := Lib.hid hw2
            have HB2 := Lib.hid hb2
            clear hp2' hw2 hb2
            go_wp2
            go_roundw
            case rel =>
              have hb2s : w1.heap.size ≤ b2 := by have := HB2.out; have := HW.out.size; omega
              refine ⟨j + 1, bs'.set j b2, by omega, by go_num, ?_, Lib.hid (Fr.setCell (HW.out.trans HW2.out) (a := ⟨g, j, none⟩) (.inr HGB.out) _)⟩
              rw [fl_succ hjl]
              exact Lib.hid (HF2.out.set (fresh_not HF.out HB2.out) hb2s HP2.out)
            case measure => simp [intOf]; omega
          · have ej : j = L.length := by omega
            rw [ej, fl_all] at HF
            clear ej hfl hcN
            have hcN := HW.out.cell hg.out (fun x => x)
            go_wp2_with fail
            refine (delta_any n n _ rfl HN.out).mono ?_
            rintro e w2 ⟨b2, hb2, rfl, hp2', hw2⟩
            have HP2 := Lib.hid hp2'
            have HW2 := Lib.hid hw2
            have HB2 := Lib.hid hb2
            clear hp2' hw2 hb2
            go_wp2_with fail
            refine (then_any b2 n _ _ w2 HN.out (by omega) (by omega) HP2.out).mono ?_
            rintro e w3 ⟨rfl, hp3, hf3⟩
            have HW3 : Hid (New wr w3) := Lib.hid (Fr.next HW2.out hf3 fun i hi => by right; rw [hi]; exact HB2.out)
            have HP3 := Lib.hid hp3
            have HF3 := Lib.hid (HF.out.new HW3.out)
            have hml : (L.map (Bd.flp n)).length = L.length := by simp
            have HML := Lib.hid hml
            have ho3 := HF3.out.1
            rw [hml] at ho3
            have HO3 := Lib.hid ho3
            clear hp3 hf3 hml ho3
            go_wp2_with (at_builtin; refine wpList_append_own _ rfl _ _ 37 rfl w1.heap.size 41 i0 (.slice none 0 0) 1 24 Try.underlying37 hi hz0 hz1 hz2 rfl (by decide) _ L.length (bs'.map (pv n)) rfl ?d0 ⟨_, 0, none⟩ 1 1 [pv n b2] rfl rfl ?d2 ?d3 ?d4 ?d5 ?d6 ?_)
            case d0 => exact World.ownsRow.alloc HO3.out _
            case d2 => exact cell_one_new _ _ _
            case d3 => intro u hu; rw [List.mem_singleton] at hu; subst hu; rfl
            case d4 => unfold maxLen; omega
            case d5 => omega
            case d6 => have := (HW.out.trans HW3.out).size; simp; omega
            intro v' w4 hown hgrow _
            have hb2s : w1.heap.size ≤ b2 := by have := HB2.out; have := HW.out.size; omega
            obtain ⟨a4, c4, rfl, h4⟩ := HF3.out.grown (fresh_not HF.out HB2.out) hb2s HP3.out (by rw [HML.out]; exact hown) (by rw [HML.out]; exact hgrow)
            have HF4 := Lib.hid h4
            have HW4 : Hid (New w1 w4) := Lib.hid (New.own41 (HW.out.trans HW3.out) HO3.out hgrow)
            clear hown hgrow h4 hb2s
            have HRn2 : Hid (Bd.run n Bd.start (xs.take (k + 1)) = (pw - 1, L.map (Bd.flp n) ++ [Bd.thn (Bd.delta n) (-x).toNat])) := Lib.hid (by rw [HRn.out]; unfold Bd.letter; rw [if_neg (by omega)])
            go_wp2
            go_roundw
            case rel => exact ⟨k + 1, a4, c4, bs' ++ [b2], pw - 1, L.map (Bd.flp n) ++ [Bd.thn (Bd.delta n) (-x).toNat], by omega, by go_num, rfl, by simp, by simp; omega, by omega, by omega, HF4, HW4, HRn2⟩
            case measure => simp [intOf]; omega
    · have ek : xs.take k = xs := List.take_of_length_le (by omega)
      rw [ek] at HR
      clear ek
      obtain ⟨L0, HL0⟩ : ∃ L0, Hid (L0 = L) := ⟨_, Lib.hid rfl⟩
      have hl20 : L.length ≤ 20 := by omega
      have hall0 : Bd.AllP n L := by
        have h := Bd.run_allP HN.out HWd.out (s := Bd.start) (fun _ h => by cases h)
        rw [HR.out] at h
        exact h
      have HAll := Lib.hid hall0
      clear hall0
      go_wp2
      go_loopg [14, 15, 67] (2 * Bd.wt L + 1) (fun gk t _ _ wr => ∃ (ag : Bool) (L' : List (List Nat)), t = .bool ag ∧ Hid (Fam w1.heap.size wr a' c' n bs L') ∧ Hid (New w1 wr) ∧ Hid (Bd.Steps n L L') ∧ Hid (gk = 2 * Bd.wt L' + if ag then 1 else 0) ∧ Hid (ag = false → Bd.LW n L'))
      case atStart => exact ⟨true, L, rfl, HF, HW, Lib.hid (.refl _), Lib.hid rfl, Lib.hid (by simp)⟩
      case round =>
        obtain ⟨ag, L1, rfl, HF, HW, HS, HGk, HLW⟩ := hrel
        have HLen := Lib.hid (steps_len HS.out)
        have HAll1 := Lib.hid (HAll.out.steps HN.out HS.out)
        cases ag with
        | true =>
          go_wp2
          go_loopw [14, 15, 67] (fun t _ i wr => ∃ (ag2 : Bool) (k : Nat) (L2 : List (List Nat)), t = .bool ag2 ∧ i = .int .i64 k ∧ (k = 0 ∨ k + 1 ≤ L.length) ∧ Hid (Fam w1.heap.size wr a' c' n bs L2) ∧ Hid (New w1 wr) ∧ Hid (Bd.Steps n L1 L2) ∧ Hid (ag2 = true → Bd.wt L2 < Bd.wt L1) ∧ Hid (ag2 = false → L2 = L1 ∧ ∀ m, m < k → Fine n L1 m)) (fun _ _ i _ => L.length - (intOf i).toNat)
          case atStart => exact ⟨false, 0, L1, rfl, rfl, .inl rfl, HF, HW, Lib.hid (.refl _), Lib.hid (by simp), Lib.hid fun _ => ⟨rfl, fun m h => by omega⟩⟩
          case round =>
            obtain ⟨ag2, k, L2, rfl, rfl, hk, HF, HW, HS2, HD2, HE2⟩ := hrel
            have HLen2 := Lib.hid (steps_len HS2.out)
            by_cases hlt : k + 1 < L.length
            · have hlt' : (k : Int) < (L.length : Int) - 1 := by omega
              go_wp2
              go_loopg [14] (Bd.wt L2) (fun gk t wr => ∃ (ag3 : Bool) (L3 : List (List Nat)), t = .bool ag3 ∧ Hid (Fam w1.heap.size wr a' c' n bs L3) ∧ Hid (New w1 wr) ∧ Hid (Bd.Steps n L1 L3) ∧ Hid (gk = Bd.wt L3) ∧ Hid (ag3 = true → Bd.wt L3 < Bd.wt L1) ∧ Hid (ag3 = false → L3 = L1 ∧ ∀ m, m < k → Fine n L1 m))
              case atStart => exact ⟨ag2, L2, rfl, HF, HW, HS2, Lib.hid rfl, HD2, HE2⟩
              case round =>
                obtain ⟨ag3, L3, rfl, HF, HW, HS3, HG3, HD3, HE3⟩ := hrel
                have hl3 : L3.length = L.length := by rw [steps_len HS3.out, HLen.out]
                obtain ⟨g, rfl, hgB, hcap, hc1, _, hpk⟩ := HF.out.at (k := k) (by omega)
                obtain ⟨g', eg, _, _, hc2, _, hpk1⟩ := HF.out.at (k := k + 1) (by omega)
                cases eg
                have hne := nodup_getD HF.out.2.1 (i := k) (j := k + 1) (by rw [HF.out.len]; omega) (by rw [HF.out.len]; omega) (by omega)
                have cc := fun w2 (h : New wr w2) => shift_any (bs.getD k 0) (bs.getD (k + 1) 0) n (L3.getD k []) (L3.getD (k + 1) []) w2 HN.out hne (New.perm h hpk) (New.perm h hpk1)
                have HL3 := Lib.hid hl3
                have HGB := Lib.hid hgB
                obtain ⟨b1, HB1⟩ : ∃ b1, Hid (b1 = bs.getD k 0) := ⟨_, Lib.hid rfl⟩
                obtain ⟨b2, HB2⟩ : ∃ b2, Hid (b2 = bs.getD (k + 1) 0) := ⟨_, Lib.hid rfl⟩
                rw [← HB1.out] at hc1 cc
                rw [← HB2.out] at hc2 cc
                rw [hl3] at hcap
                clear hl3 hgB hpk hpk1 hne
                have hAll3 := HAll1.out.steps HN.out HS3.out
                have HA3 := Lib.hid hAll3
                clear hAll3
                cases hfi : Bd.firstI n (L3.getD k []) (L3.getD (k + 1) []) with
                | some i =>
                  rw [hfi] at cc
                  have HFI := Lib.hid hfi
                  have CC := Lib.hid cc
                  clear cc hfi
                  go_wp2_with fail
                  have hdr : New wr wr.drew := (Fr.refl _ _).drew
                  have k1 : (k : Int) < (L.length : Int) := by omega
                  have k2 : (k : Int) + 1 < (L.length : Int) := by omega
                  have k3 : (0 : Int) ≤ (k : Int) + 1 := by omega
                  have k4 : IntKind.i64.wrap ((k : Int) + 1) = (k : Int) + 1 := by exact IntWalk.i64_in _ (by omega)
                  have k5 : ((k : Int) + 1).toNat = k + 1 := by omega
                  have q1 : wr.drew.cell? ⟨g, k, none⟩ = some (.slice (some ⟨b1, 0, none⟩) (n + 1) (n + 1)) := hc1
                  have q2 : wr.drew.cell? ⟨g, k + 1, none⟩ = some (.slice (some ⟨b2, 0, none⟩) (n + 1) (n + 1)) := hc2
                  go_still_tail 9, (by kernel_rfl)
                  clear k3 k4 k5 q1 q2
                  change wpList _ _ _ _ _ wr.drew
                  generalize wr.drew = w2 at hdr
                  have HD := Lib.hid hdr
                  clear hdr
                  go_wp2_with fail
                  refine (CC.out w2 HD.out).mono ?_
                  rintro e w3 ⟨rfl, hs1, hs2, hs3⟩
                  rw [HB1.out] at hs1 hs3
                  rw [HB2.out] at hs2 hs3
                  have HT := Lib.hid ((HF.out.new HD.out).turn (by rw [HL3.out]; exact hlt) hs1 hs2 hs3)
                  have HFr : Hid (New w1 w3) := Lib.hid (Fr.next (HW.out.trans HD.out) hs3 fun x hx => by
                    right
                    rcases hx with rfl | rfl
                    · exact HF.out.2.2.2 _ (getD_mem0 (by rw [HF.out.len, HL3.out]; omega))
                    · exact HF.out.2.2.2 _ (getD_mem0 (by rw [HF.out.len, HL3.out]; omega)))
                  clear hs1 hs2 hs3
                  have hstep : Hid (Bd.Step n L3 ((L3.set k (shP n (L3.getD k []) (L3.getD (k + 1) []))).set (k + 1) (shQ n (L3.getD k []) (L3.getD (k + 1) [])))) := Lib.hid (by
                    have := step_at (L := L3) (k := k) (by rw [HL3.out]; exact hlt) HFI.out
                    unfold shP shQ
                    rw [HFI.out]
                    exact this)
                  obtain ⟨L4, HL4⟩ : ∃ L4, Hid (L4 = (L3.set k (shP n (L3.getD k []) (L3.getD (k + 1) []))).set (k + 1) (shQ n (L3.getD k []) (L3.getD (k + 1) []))) := ⟨_, Lib.hid rfl⟩
                  rw [← HL4.out] at HT hstep
                  have hwt := Lib.hid (Bd.wt_step HN.out hstep.out HA3.out)
                  go_wp2
                  go_roundg (Bd.wt L4)
                  case measure => rw [HG3.out]; exact hwt.out
                  case rel =>
                    refine ⟨true, L4, rfl, HT, HFr, Lib.hid (HS3.out.trans (.one hstep.out)), Lib.hid rfl, Lib.hid fun _ => ?_, Lib.hid (by simp)⟩
                    have h1 := hwt.out
                    cases ag3 with
                    | true => have := HD3.out rfl; omega
                    | false => rw [(HE3.out rfl).1] at h1; exact h1
                | none =>
                  rw [hfi] at cc
                  have HFI := Lib.hid hfi
                  have CC := Lib.hid cc
                  clear cc hfi
                  go_wp2_with fail
                  have hdr : New wr wr.drew := (Fr.refl _ _).drew
                  have k1 : (k : Int) < (L.length : Int) := by omega
                  have k2 : (k : Int) + 1 < (L.length : Int) := by omega
                  have k3 : (0 : Int) ≤ (k : Int) + 1 := by omega
                  have k4 : IntKind.i64.wrap ((k : Int) + 1) = (k : Int) + 1 := by exact IntWalk.i64_in _ (by omega)
                  have k5 : ((k : Int) + 1).toNat = k + 1 := by omega
                  have q1 : wr.drew.cell? ⟨g, k, none⟩ = some (.slice (some ⟨b1, 0, none⟩) (n + 1) (n + 1)) := hc1
                  have q2 : wr.drew.cell? ⟨g, k + 1, none⟩ = some (.slice (some ⟨b2, 0, none⟩) (n + 1) (n + 1)) := hc2
                  go_still_tail 9, (by kernel_rfl)
                  clear k3 k4 k5 q1 q2
                  change wpList _ _ _ _ _ wr.drew
                  generalize wr.drew = w2 at hdr
                  have HD := Lib.hid hdr
                  clear hdr
                  go_wp2_with fail
                  refine (CC.out w2 HD.out).mono ?_
                  rintro e w3 ⟨rfl, hs1, hs2, hs3⟩
                  rw [HB1.out] at hs1 hs3
                  rw [HB2.out] at hs2 hs3
                  have HT := Lib.hid ((HF.out.new HD.out).turn (by rw [HL3.out]; exact hlt) hs1 hs2 hs3)
                  have HFr : Hid (New w1 w3) := Lib.hid (Fr.next (HW.out.trans HD.out) hs3 fun x hx => by
                    right
                    rcases hx with rfl | rfl
                    · exact HF.out.2.2.2 _ (getD_mem0 (by rw [HF.out.len, HL3.out]; omega))
                    · exact HF.out.2.2.2 _ (getD_mem0 (by rw [HF.out.len, HL3.out]; omega)))
                  clear hs1 hs2 hs3
                  have e1 : shP n (L3.getD k []) (L3.getD (k + 1) []) = L3.getD k [] := by unfold shP; rw [HFI.out]
                  have e2 : shQ n (L3.getD k []) (L3.getD (k + 1) []) = L3.getD (k + 1) [] := by unfold shQ; rw [HFI.out]
                  rw [e1, e2, set_self, set_self] at HT
                  clear e1 e2
                  go_wp2
                  go_roundw
                  case rel =>
                    refine ⟨ag3, k + 1, L3, rfl, by go_num, .inr (by omega), HT, HFr, HS3, HD3, Lib.hid fun h => ⟨(HE3.out h).1, fun m hm => ?_⟩⟩
                    by_cases c : m = k
                    · subst c
                      have := fine_of_none HFI.out
                      rwa [(HE3.out h).1] at this
                    · exact (HE3.out h).2 m (by omega)
                  case measure => simp [intOf]; omega
            · have hge : ¬ (k : Int) < (L.length : Int) - 1 := by omega
              have HK1 : Hid (L.length ≤ k + 1) := Lib.hid (by omega)
              go_wp2
              go_roundg (2 * Bd.wt L2 + if ag2 then 1 else 0)
              case measure =>
                rw [HGk.out]
                cases ag2 with
                | true => have := HD2.out rfl; simp; omega
                | false => rw [(HE2.out rfl).1]; simp
              case rel =>
                refine ⟨ag2, L2, rfl, HF, HW, Lib.hid (HS.out.trans HS2.out), Lib.hid rfl, Lib.hid fun h => ?_⟩
                rw [(HE2.out h).1]
                exact lw_of_fine fun m hm => (HE2.out h).2 m (by have := HLen.out; have := HK1.out; omega)
        | false =>
          have HIrr := Lib.hid (Bd.irr_of_lw (HLW.out rfl))
          have hcN := HW.out.cell hg.out (fun x => x)
          have dd := delete_any w1.heap.size a' c' gN n bs L1 wr HN.out HF.out (by have := HLen.out; omega) hcN HB.out
          rw [HLen.out] at dd
          have DD := Lib.hid dd
          clear dd hcN
          go_wp2_with fail
          refine DD.out.mono ?_
          rintro e w2 ⟨a6, c6, rfl, hfr, hle6, hf6⟩
          have HW2 : Hid (New w1 w2) := Lib.hid (Fr.next HW.out hf6 fun x hx => .inr hx)
          have HFR := Lib.hid hfr
          have hfl1 := List.length_filter_le (· != Bd.idn n) L1
          obtain ⟨M1, HM1⟩ : ∃ M1, Hid (M1 = L1.filter (· != Bd.idn n)) := ⟨_, Lib.hid rfl⟩
          rw [← HM1.out] at HFR hle6 hfl1 ⊢
          have hm1 : M1.length ≤ 20 := by have := HLen.out; omega
          clear hfr hf6 hfl1 DD
          go_wp2_with fail
          go_loopg [6, 7] M1.length (fun gk p v wr => ∃ (j : Nat) (a7 : Option Addr) (c7 : Nat) (M : List (List Nat)), p = .int .i64 (pw + j) ∧ v = .slice a7 M.length c7 ∧ j ≤ 20 ∧ M.length ≤ 20 ∧ M.length ≤ c7 ∧ Hid (gk = M.length) ∧ Hid (j + M.length ≤ 20) ∧ Hid (FamR wr a7 n M) ∧ Hid (New w1 wr) ∧ Hid (M1 = List.replicate j (Bd.delta n) ++ M))
          case atStart => exact ⟨0, a6, c6, M1, by simp, rfl, by omega, hm1, hle6, Lib.hid rfl, Lib.hid (by omega), HFR, HW2, Lib.hid (by simp)⟩
          case round =>
            obtain ⟨j, a7, c7, M, rfl, rfl, hj20, hM20, hMc, HGk7, HJM, HFR7, HW7, HMM⟩ := hrel
            have hcN := HW7.out.cell hg.out (fun x => x)
            cases M with
            | nil =>
              go_wp2_with fail
              go_quiet (fail)
              go_wp2
              go_ret2
              rename_i nq
              refine ⟨pw + j, a7, c7, [], rfl, .inl rfl, by simp, HN1.out.trans (HW7.out.drewN _), ⟨L1, ?_, HIrr.out, ?_⟩, by omega, by omega⟩
              · rw [HR.out]; exact HS.out
              · rw [HR.out]
                exact (strip_of (by rw [← HM1.out]; exact HMM.out) (by simp)).symm
            | cons p M =>
              obtain ⟨g, o, b1, rfl, hc1, hp1'⟩ := HFR7.out.at (k := 0) (by simp)
              rw [Nat.add_zero] at hc1
              have HP1 := Lib.hid hp1'
              clear hp1'
              obtain ⟨m7, HM7⟩ : ∃ m, Hid (m = (p :: M).length) := ⟨_, Lib.hid rfl⟩
              have hm7 : 1 ≤ m7 := by rw [HM7.out]; simp
              rw [← HM7.out] at hM20 hMc ⊢
              go_wp2_with fail
              go_cut [94] (fun s94 wx => s94 = .bool (p == Bd.delta n) ∧ Hid (New wr wx))
              case first =>
                have hd1 : (0 : Int) < (m7 : Int) := by omega
                have hd2 : 0 < m7 := by omega
                go_region_with (first
                  | (go_at_call 24; refine (delta_any n n _ rfl HN.out).mono ?_; rintro e w3 ⟨b3, hb3, rfl, hp3, hw3⟩; have q1 := (hw3.cell (w := wr.drew) hcN (fun x => x)); have q2 := (hw3.cell (w := wr.drew) hc1 (fun x => x)))
                  | (go_at_call 15; refine (equal_any b1 b3 n p (Bd.delta n) w3 HN.out (New.perm hw3 HP1.out) hp3).mono ?_; rintro e w4 ⟨rfl, hw4⟩))
                all_goals (go_wp2_with fail; go_meet; exact ⟨rfl, Lib.hid (((Fr.refl (fun _ => False) wr).drew.trans hw3).trans hw4)⟩)
              case rest =>
                obtain ⟨rfl, HNx⟩ := hcut
                by_cases he : p = Bd.delta n
                · have e1 : (p == Bd.delta n) = true := by rw [beq_iff_eq]; exact he
                  have HE := Lib.hid he
                  rw [e1]
                  have hmt : Hid (m7 = M.length + 1) := Lib.hid (by rw [HM7.out]; simp)
                  have c71 : 1 ≤ c7 := by omega
                  have htail := Lib.hid (famR_tail (HFR7.out.new HNx.out))
                  have hmm : Hid (M1 = List.replicate (j + 1) (Bd.delta n) ++ M) := Lib.hid (by rw [HMM.out, HE.out, List.replicate_succ']; simp)
                  clear he e1
                  by_cases hc7 : c7 = 1
                  · have hM0 : Hid (M = []) := Lib.hid (List.length_eq_zero_iff.1 (by have := hmt.out; omega))
                    subst hc7
                    go_wp2
                    rw [hM0.out] at hmm
                    go_roundg 0
                    case measure => rw [HGk7.out]; simp
                    case rel => exact ⟨j + 1, _, _, [], by congr 1; omega, rfl, by have := HJM.out; simp at this; omega, Nat.zero_le _, Nat.zero_le _, Lib.hid rfl, Lib.hid (by have := HJM.out; simp at this ⊢; omega), Lib.hid (.inl rfl), Lib.hid (HW7.out.trans HNx.out), hmm⟩
                  · go_wp2
                    go_roundg M.length
                    case measure => rw [HGk7.out]; simp
                    case rel => exact ⟨j + 1, _, _, M, by congr 1; omega, by rw [show M.length = m7 - 1 from by have := hmt.out; omega], by have := HJM.out; simp at this; omega, by have := hmt.out; omega, by have := hmt.out; omega, Lib.hid rfl, Lib.hid (by have := HJM.out; simp at this; omega), htail, Lib.hid (HW7.out.trans HNx.out), hmm⟩
                · have e1 : (p == Bd.delta n) = false := by rw [beq_eq_false_iff_ne]; exact he
                  have HE := Lib.hid he
                  rw [e1]
                  clear he e1
                  go_wp2
                  go_ret2
                  refine ⟨pw + j, some ⟨g, o, none⟩, c7, p :: M, by rw [HM7.out]; rfl, HFR7.out.new HNx.out, by rw [← HM7.out]; omega, HN1.out.trans (HW7.out.trans HNx.out), ⟨L1, ?_, HIrr.out, ?_⟩, by omega, by omega⟩
                  · rw [HR.out]; exact HS.out
                  · rw [HR.out]
                    exact (strip_of (by rw [← HM1.out]; exact HMM.out) (by simpa using HE.out)).symm
end Go.Proofs.Ytlnmboiangnpfaa
