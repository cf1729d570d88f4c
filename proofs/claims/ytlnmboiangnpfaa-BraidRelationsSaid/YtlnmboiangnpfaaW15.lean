/- Walks: Normal hands back copies. -/
import Derived.Test.YtlnmboiangnpfaaW14
namespace Go.Proofs.Ytlnmboiangnpfaa
open Go.RowKit

/- while Normal copies: the rows so far -/
def Copied (base : Nat) (w : World) (v : Value) (T : List (List Int)) : Prop :=
  ∃ vs, w.ownsRow base 22 1 v T.length vs ∧ ∀ k, k < T.length → ∃ vk, vs[k]? = some vk ∧ w.ownsRow base 3 1 vk (T.getD k []).length (ints (T.getD k []))
theorem copied_nil (base : Nat) (w : World) : Copied base w (.slice none 0 0) [] := ⟨[], World.ownsRow_nil _ _ _ _, fun k h => by simp at h⟩
theorem own_types {w : World} {base base' : Nat} {e e' : TypeId} {v v' : Value} {m m' : Nat} {xs xs' : List Value} (hne : e ≠ e') (h : w.ownsRow base e 1 v m xs) (h' : w.ownsRow base' e' 1 v' m' xs') (k : Nat) (hk : v.ownBlock = some k) : ¬ some k = v'.ownBlock := by
  intro hk'
  rcases h.2 with ⟨rfl, _⟩ | ⟨g, cap, cur, rfl, hb, hg, _⟩
  · simp [Value.ownBlock] at hk
  · rcases h'.2 with ⟨rfl, _⟩ | ⟨g', cap', cur', rfl, hb', hg', _⟩
    · simp [Value.ownBlock] at hk'
    · simp only [Value.ownBlock, Option.some.injEq] at hk hk'
      rw [hk] at hg
      rw [← hk', hg] at hg'
      cases hg'
      exact hne rfl
theorem Copied.reads {base : Nat} {w : World} {v : Value} {T : List (List Int)} (h : Copied base w v T) : ∃ a c, v = .slice a T.length c ∧ TabR w a T := by
  obtain ⟨vs, h1, h2⟩ := h
  rcases h1.2 with ⟨rfl, h0⟩ | ⟨g, cap, cur, rfl, hb, hg, hn, hc, hs, ht⟩
  · rw [h0]; exact ⟨none, 0, rfl, .inl (List.length_eq_zero_iff.1 h0)⟩
  · refine ⟨_, cap, rfl, .inr ⟨g, 0, rfl, fun k hk => ?_⟩⟩
    obtain ⟨vk, e, ho⟩ := h2 k hk
    obtain ⟨a, c, rfl, hi, _⟩ := IntsAt.of_owns ho
    refine ⟨a, c, ?_, hi⟩
    have := World.ownsRow.cells h1 (g := g) rfl k _ e
    rwa [addr_add] at this
theorem Copied.new {base : Nat} {w w' : World} {v : Value} {T : List (List Int)} (h : Copied base w v T) (hn : New w w') : Copied base w' v T := by
  obtain ⟨vs, h1, h2⟩ := h
  refine ⟨vs, Fr.owns hn h1 fun _ _ x => x, fun k hk => ?_⟩
  obtain ⟨vk, e, ho⟩ := h2 k hk
  exact ⟨vk, e, Fr.owns hn ho fun _ _ x => x⟩
/- one more row -/
theorem Copied.app {base : Nat} {w w' : World} {o : Obj} {v v' vk : Value} {T : List (List Int)} {vs : List Value} {l : List Int} (h1 : w.ownsRow base 22 1 v T.length vs) (h2 : ∀ k, k < T.length → ∃ vk, vs[k]? = some vk ∧ w.ownsRow base 3 1 vk (T.getD k []).length (ints (T.getD k [])))
    (hk : w.ownsRow base 3 1 vk l.length (ints l)) (ho : w'.ownsRow base 22 1 v' (T.length + 1) (vs ++ [vk])) (hg : (w.alloc o).grownBy w' v.ownBlock) : Copied base w' v' (T ++ [l]) := by
  have hfr : Fr (fun x => some x = v.ownBlock) w w' := ((Fr.refl _ _).alloc o).grown hg fun k e => .inl e.symm
  have hl : vs.length = T.length := by have := h1.1; omega
  refine ⟨vs ++ [vk], by simpa using ho, fun k hk' => ?_⟩
  rw [List.length_append, List.length_singleton] at hk'
  by_cases c : k < T.length
  · obtain ⟨u, e, hu⟩ := h2 k c
    rw [getD_app_lt _ c]
    exact ⟨u, by rw [List.getElem?_append_left (by omega)]; exact e, Fr.owns hfr hu fun b hb => own_types (by decide) hu h1 b hb⟩
  · have : k = T.length := by omega
    subst this
    rw [getD_app_last]
    exact ⟨vk, by rw [← hl]; simp, Fr.owns hfr hk fun b hb => own_types (by decide) hk h1 b hb⟩

/- a copy that the call owns -/
def GaveOwn (xs : List Int) (w : World) (e : Ending) (w' : World) : Prop :=
  ∃ v, e = .returned v ∧ w'.ownsRow w.heap.size 3 1 v xs.length (ints xs) ∧ New w w'

set_option maxHeartbeats 400000 in
theorem cloneOwn_any (ad : Addr) (l c : Nat) (xs : List Int) (w : World) (hl : l = xs.length) (hx : IntsAt w (some ad) xs) (lx : xs.length ≤ 4000000000) :
    Calls Try.prog 18 #[.slice (some ad) l c] w (GaveOwn xs w) := by
  subst hl
  have hnil := fun (w : World) (a : Option Addr) (n c n' c' : Nat) => Lib.run_eql_slice_nil (P := Try.prog) w 41 3 a n c n' c' Try.underlying41
  have HX := Lib.hid hx
  clear hx
  obtain ⟨i0, hi, hz0, hz1, hz2⟩ := info_parts Try.info3
  go_enter Try.func18, Try.ntmps18
  go_wp2_with (at_builtin; refine wpList_append_own _ rfl _ _ 41 rfl w.heap.size 3 i0 (.int .i64 0) 1 8 Try.underlying41 hi hz0 hz1 hz2 rfl (by decide) _ 0 [] rfl (World.ownsRow_made _ _ _ ?c0 ?c0b ?c0c) ad xs.length c (ints xs) rfl ?c1 ?c2 ?c3 ?c4 ?c5 ?c6 ?_)
  case c0 => exact Nat.le_refl _
  case c0b => exact Nat.zero_le _
  case c0c => rfl
  case c1 => rw [ints_length, Nat.mul_one]
  case c2 => exact (New.ints ((Fr.refl _ _).alloc _) HX.out).news
  case c3 => exact ints_one xs
  case c4 => unfold maxLen; omega
  case c5 => omega
  case c6 => simp
  intro v' w1 hown hgrow _
  have hfr : New w w1 := ((Fr.refl (fun _ => False) w).alloc (.cells #[] 3)).grown hgrow fun k e => by
    right
    simp only [Value.ownBlock, Option.some.injEq] at e
    omega
  have H1 := Lib.hid hown
  have HF := Lib.hid hfr
  clear hown hgrow hfr
  go_wp2
  go_ret
  exact ⟨v', rfl, H1.out, HF.out⟩

theorem tail_ints {w : World} {b n : Nat} {p : List Nat} (hn : n ∈ Bd.ns) (hp : PermAt w b n p) : IntsAt w (some ⟨b, 1, none⟩) (p.tail.map Int.ofNat) ∧ (p.tail.map Int.ofNat).length = n := by
  have hl := Bd.perm_len hn hp.2
  have e : (p.tail.map Int.ofNat).length = n := by simp [hl]
  refine ⟨.inr ⟨b, 1, rfl, fun i hi => ?_⟩, e⟩
  rw [e] at hi
  rw [hp.1.cell (i := 1 + i) (by omega)]
  simp only [cellsOf, Bd.pg, List.getD_eq_getElem?_getD, List.getElem?_map, List.getElem?_tail]
  rw [show 1 + i = i + 1 from by omega, List.getElem?_eq_getElem (by omega)]
  rfl

/- what Normal hands back -/
def NormalOut (n : Nat) (xs : List Int) (w : World) (e : Ending) (w' : World) : Prop :=
  ∃ (p : Int) (a : Option Addr) (c : Nat) (M : List (List Nat)), e = .returned (.tuple #[.int .i64 p, .slice a (tl M).length c, .int .i64 0]) ∧ TabR w' a (tl M) ∧ (tl M).length ≤ 100 ∧ Bd.AllP n M ∧ New w w' ∧ Bd.IsNf n (Bd.run n Bd.start xs) (p, M)

set_option maxHeartbeats 1000000 in
theorem braidNormal_any (a : Option Addr) (l c n : Nat) (i : Int) (xs : List Int) (w : World) (hi : i = n) (hl : l = xs.length) (hn : n ∈ Bd.ns) (hx : IntsAt w a xs) (lx : xs.length ≤ 20) (wx : Bd.Word n xs) :
    Calls Try.prog 10 #[.int .i64 i, .slice a l c] w (NormalOut n xs w) := by
  subst hi
  subst hl
  have hn5 := ns_le hn
  obtain ⟨i0, hi, hz0, hz1, hz2⟩ := info_parts Try.info22
  have HX := Lib.hid hx
  have HN := Lib.hid hn
  have HWx := Lib.hid wx
  clear hx hn wx
  go_enter Try.func10, Try.ntmps10
  go_wp2_with fail
  refine (check_any _ 1 1 n n [xs] _ _ _ rfl rfl (by simp) hn5.1 hn5.2 (one_word HX.out) (by simp [HWx.out, lx])).mono ?_
  rintro e w1 ⟨rfl, h1⟩
  have HW1 : Hid (New w w1) := Lib.hid (((Fr.refl _ _).alloc _).trans h1)
  clear h1
  go_wp2_with fail
  refine (normal_any _ _ n n xs w1 rfl HN.out (New.ints HW1.out HX.out) lx HWx.out).mono ?_
  rintro e w2 ⟨p, a1, c1, M, rfl, hr1, hm1, hw2, hnf1, hp1, hp1'⟩
  have HR1 := Lib.hid hr1
  have HW2 := Lib.hid (HW1.out.trans hw2)
  have HNF1 := Lib.hid hnf1
  clear hr1 hw2 hnf1
  go_wp2
  go_loopw [10, 12, 28] (fun v _ i wr => ∃ k : Nat, k ≤ M.length ∧ i = .int .i64 k ∧ Hid (Copied w2.heap.size wr v (tl (M.take k))) ∧ Hid (New w2 wr)) (fun _ _ i _ => M.length - (intOf i).toNat)
  case atStart => exact ⟨0, by omega, rfl, Lib.hid (copied_nil _ _), Lib.hid (Fr.refl _ _)⟩
  case round =>
    obtain ⟨k, hk, rfl, HC, HF⟩ := hrel
    by_cases hlt : k < M.length
    · obtain ⟨g, o, b, rfl, d1, hp⟩ := (HR1.out.new HF.out).at hlt
      obtain ⟨hti, htl⟩ := tail_ints HN.out hp
      obtain ⟨tw, HTW⟩ : ∃ tw, Hid (tw = (M.getD k []).tail.map Int.ofNat) := ⟨_, Lib.hid rfl⟩
      rw [← HTW.out] at hti htl
      have HTI := Lib.hid hti
      have HTL := Lib.hid htl
      have hn1 : ¬ n = 0 := by omega
      clear hti htl hp
      go_wp2_with fail
      refine (cloneOwn_any _ _ _ tw _ (by rw [HTL.out]) HTI.out (by rw [HTL.out]; omega)).mono ?_
      rintro e w3 ⟨vk, rfl, hvo, hw3⟩
      obtain ⟨ra, rc, hvk, _, _⟩ := IntsAt.of_owns hvo
      rw [HTL.out] at hvk
      subst hvk
      obtain ⟨vs, hv1, hv2⟩ := HC.out.new hw3
      have HV1 := Lib.hid hv1
      have HV2 := Lib.hid hv2
      have HVO : Hid (w3.ownsRow w2.heap.size 3 1 (.slice ra n rc) tw.length (ints tw)) := Lib.hid (by
        obtain ⟨x1, x2⟩ := hvo
        refine ⟨x1, ?_⟩
        rcases x2 with x2 | ⟨g', cap, cur, e1, e2, r⟩
        · exact .inl x2
        · exact .inr ⟨g', cap, cur, e1, by have := HF.out.size; omega, r⟩)
      have HW3 := Lib.hid hw3
      have hs20 : (tl (M.take k)).length ≤ 100 := by rw [tl_length, List.length_take]; omega
      obtain ⟨tk, HTK⟩ : ∃ tk, Hid (tk = (tl (M.take k)).length) := ⟨_, Lib.hid rfl⟩
      rw [← HTK.out] at HV1 hs20
      clear hv1 hv2 hvo hw3
      go_wp2_with (at_builtin; refine wpList_append_own _ rfl _ _ 32 rfl w2.heap.size 22 i0 (.slice none 0 0) 1 24 Try.underlying32 hi hz0 hz1 hz2 rfl (by decide) _ tk vs rfl ?c0 ⟨_, 0, none⟩ 1 1 [.slice ra n rc] rfl rfl ?c2 ?c3 ?c4 ?c5 ?c6 ?_)
      case c0 => exact World.ownsRow.alloc HV1.out _
      case c2 => exact cell_one_new _ _ _
      case c3 => intro u hu; rw [List.mem_singleton] at hu; subst hu; rfl
      case c4 => unfold maxLen; omega
      case c5 => omega
      case c6 => have := (HF.out.trans HW3.out).size; simp; omega
      intro v' w4 hown hgrow _
      have HC4 : Hid (Copied w2.heap.size w4 v' (tl (M.take (k + 1)))) := Lib.hid (by
        have h := Copied.app (T := tl (M.take k)) (by rw [← HTK.out]; exact HV1.out) HV2.out HVO.out (by rw [← HTK.out]; exact hown) hgrow
        have e : tl (M.take (k + 1)) = tl (M.take k) ++ [tw] := by
          rw [take_snoc' [] hlt, HTW.out]; simp [tl]
        rw [e]; exact h)
      have HW4 : Hid (New w2 w4) := Lib.hid ((Fr.alloc (HF.out.trans HW3.out) _).grown hgrow fun k ek => .inr (HV1.out.lt k ek).1)
      clear hown hgrow
      go_wp2
      go_roundw
      case rel => exact ⟨k + 1, by omega, by go_num, HC4, HW4⟩
      case measure => simp [intOf]; omega
    · have ek : M.take k = M := List.take_of_length_le (by omega)
      rw [ek] at HC
      clear ek
      obtain ⟨a9, c9, rfl, h9⟩ := HC.out.reads
      have H9 := Lib.hid h9
      have HM : Hid (Bd.AllP n M) := Lib.hid (by
        intro q hq
        obtain ⟨k, hk, rfl⟩ := List.mem_iff_getElem.1 hq
        obtain ⟨_, _, _, _, _, hp⟩ := HR1.out.at hk
        have := hp.2
        rwa [List.getD_eq_getElem?_getD, List.getElem?_eq_getElem hk] at this)
      clear h9
      go_wp2
      go_ret3
      exact ⟨p, a9, c9, M, rfl, H9.out, by rw [tl_length]; exact hm1, HM.out, HW2.out.trans HF.out, HNF1.out⟩
end Go.Proofs.Ytlnmboiangnpfaa
