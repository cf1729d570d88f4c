/- Walks: cmp.Or, the order of powers. -/
import Derived.Shelf.SlSortCmp.NoneTotal
import Derived.Test.YtlicglicfijelaaH0
import Derived.Test.YtlicglicfijelaaH1
import Derived.Sort.MapsRangeIn
import Derived.RangeFuncSeq
import Derived.Test.YtlicglicfijelaaW10
/- Walks: cmp.Or, the order of powers. -/
namespace Go.Proofs.Ytlicglicfijelaa
open Go.RowKit
open Kn (E2 L2)

theorem or_any (g c : Nat) (x y : Int) (w : World) (h0 : w.cell? ⟨g, 0, none⟩ = some (.int .i64 x)) (h1 : w.cell? ⟨g, 1, none⟩ = some (.int .i64 y)) :
    Calls Try.prog 16 #[.slice (some ⟨g, 0, none⟩) 2 c] w (fun e w' => e = .returned (.int .i64 (if x = 0 then y else x)) ∧ w' = w) := by
  go_enter Try.func16, Try.ntmps16
  go_wp2
  go_loopw [8] (fun i wr => ∃ q : Nat, wr = w ∧ q ≤ 2 ∧ i = .int .i64 q ∧ Hid ((0 < q → x = 0) ∧ (1 < q → y = 0))) (fun i _ => 2 - (intOf i).toNat)
  case atStart => exact ⟨0, rfl, by omega, rfl, Lib.hid ⟨by omega, by omega⟩⟩
  case round =>
    obtain ⟨q, rfl, hq, rfl, HQ⟩ := hrel
    rcases (show q = 0 ∨ q = 1 ∨ q = 2 by omega) with rfl | rfl | rfl
    · by_cases hx : x = 0
      · subst hx
        go_wp2
        go_roundw
        case rel => exact ⟨1, by trivial, by omega, by first | rfl | trivial, Lib.hid (by constructor <;> intro h <;> first | trivial | omega)⟩
        case measure => simp [intOf]
      · go_wp2
        go_ret
        exact ⟨by first | rfl | (rw [if_neg hx]; rfl), rfl⟩
    · have hx := HQ.out.1 (by omega)
      by_cases hy : y = 0
      · subst hy
        go_wp2
        go_roundw
        case rel => exact ⟨2, by trivial, by omega, by first | rfl | trivial, Lib.hid (by constructor <;> intro h <;> first | trivial | omega)⟩
        case measure => simp [intOf]
      · go_wp2
        go_ret
        exact ⟨by first | rfl | (rw [if_pos hx]; rfl), rfl⟩
    · have hx := HQ.out.1 (by omega)
      have hy := HQ.out.2 (by omega)
      go_wp2
      go_ret
      exact ⟨by first | rfl | (rw [if_pos hx, hy]; rfl), rfl⟩

def cmpP (p q : E2) : Int := if p.1 - q.1 = 0 then p.2 - q.2 else p.1 - q.1
set_option maxRecDepth 100000 in
set_option maxHeartbeats 1000000 in
theorem cmpP_any (p q : E2) (w : World) (hp : isPw p) (hq : isPw q) :
    Calls Try.prog 15 #[pV p, pV q] w (fun e w' => e = .returned (.int .i64 (cmpP p q)) ∧ ∃ n os', w' = Go.Sort.grow (w.drewN n) os') := by
  obtain ⟨a, b⟩ := p
  obtain ⟨c, d⟩ := q
  obtain ⟨⟨h1, h2⟩, h3, h4⟩ := hp
  obtain ⟨⟨h5, h6⟩, h7, h8⟩ := hq
  simp only at h1 h2 h3 h4 h5 h6 h7 h8
  obtain ⟨w1, HW1⟩ : ∃ w1, Hid (w1 = (w.alloc (.cells #[.int .i64 a, .int .i64 b] 51)).alloc (.cells #[.int .i64 c, .int .i64 d] 51)) := ⟨_, Lib.hid rfl⟩
  have q1 : w1.heap[w.heap.size]? = some (.cells #[.int .i64 a, .int .i64 b] 51 (0, 0)) := by rw [HW1.out]; exact (Below.heap_alloc _ _ _ (by simp)).trans (heap_alloc_new _ _)
  have q2 : w1.heap[w.heap.size + 1]? = some (.cells #[.int .i64 c, .int .i64 d] 51 (0, 0)) := by
    have := heap_alloc_new (w.alloc (.cells #[.int .i64 a, .int .i64 b] 51)) (.cells #[.int .i64 c, .int .i64 d] 51)
    rw [World.size_alloc, ← HW1.out] at this; exact this
  obtain ⟨k1, k2, _, _⟩ := box2_c q1
  obtain ⟨k3, k4, _, _⟩ := box2_c q2
  clear q1 q2
  rw [HW1.out] at k1 k2 k3 k4
  go_enter Try.func15, Try.ntmps15
  go_wp2_with fail
  have z := heap_alloc_new ((w.alloc (.cells #[.int .i64 a, .int .i64 b] 51)).alloc (.cells #[.int .i64 c, .int .i64 d] 51)) (.cells #[.int .i64 (a - c), .int .i64 (b - d)] 3)
  rw [World.size_alloc, World.size_alloc] at z
  obtain ⟨z1, z2, _, _⟩ := box2_c z
  refine (or_any (w.heap.size + 1 + 1) 2 (a - c) (b - d) _ z1 z2).mono ?_
  rintro e w5 ⟨rfl, rfl⟩
  obtain ⟨ov, HOV⟩ : ∃ ov, Hid (ov = if a - c = 0 then b - d else a - c) := ⟨_, Lib.hid rfl⟩
  rw [← HOV.out]
  go_wp2
  go_ret
  exact ⟨by rw [HOV.out]; rfl, 0, _, by rw [Go.Sort.alloc_eq_grow, Go.Sort.alloc_eq_grow, Go.Sort.alloc_eq_grow, Go.Sort.grow_grow, Go.Sort.grow_grow]; rfl⟩
end Go.Proofs.Ytlicglicfijelaa

/- Walks: maps.Keys of powers and its iterator. -/
namespace Go.Proofs.Ytlicglicfijelaa
open Go.RowKit Go.Shelf
open Kn (E2 L2 cf)
attribute [local go_sem] Oper.semAt_some

/- what comes out of a range over a map of powers: each power of the list's, once; all that count -/
structure KeyS (l : L2) (xs : List E2) : Prop where
  nd : xs.Nodup
  mem : ∀ p ∈ xs, ∃ t ∈ l, t.1 = p
  all : ∀ p, cf l p ≠ 0 → p ∈ xs
theorem PPart.keys {D : DataW Unit} {l : L2} {left : Lit → Bool} {done : L2} (h : PPart D l left done) (hl : ∀ k, left k = false) (hp : ∀ t ∈ l, isPw t.1) : KeyS l (done.map (·.1)) := by
  refine ⟨h.nd, fun p hpm => ?_, fun p hc => ?_⟩
  · obtain ⟨t, ht, rfl⟩ := List.mem_map.1 hpm
    exact h.mem t ht
  · rw [← h.cf hl hp p] at hc
    apply Classical.byContradiction
    intro hn
    exact hc (Kn.cf_out fun t ht e => hn (List.mem_map.2 ⟨t, ht, e⟩))
set_option maxRecDepth 100000 in
set_option maxHeartbeats 4000000 in
theorem keys1_in (nn l Bm b m : Nat) (D : DataW Unit) (L : L2) (J Jx : List E2 → World → Prop)
    (hY : ∀ pre x W, J pre W → pre.length < Maps.size D → YieldAt Fence.wide (nn - 1) Try.prog l #[pV x] W fun e W' => (e = .returned (.bool true) ∧ J (pre ++ [x]) W' ∧ KeepsWalks W W') ∨ (e = .returned (.bool false) ∧ Jx (pre ++ [x]) W'))
    (W : World) (hJ : AbidesFrom W.heap.size J) (hm : W.cell? ⟨Bm, 0, none⟩ = some (.map (some b))) (hown : W.ownsMap Try.prog 51 (plainElem Try.prog 3) b m D) (hd : PD D L) (hp : ∀ t ∈ L, isPw t.1) (h0 : J [] W) :
    CallsIn Fence.wide nn Try.prog 33 #[.func (.yield l) #[] #[], .pointer (some ⟨Bm, 0, none⟩)] W fun e W' => (∃ v, e = .returned v) ∧ ((∃ xs, KeyS L xs ∧ J xs W') ∨ (∃ pre, True ∧ Jx pre W')) := by
  have HY := Lib.hid hY
  have HD := Lib.hid hd
  have HP := Lib.hid hp
  have HJ := Lib.hid hJ
  clear hY hd hp
  refine callsIn_of_wp Try.func33 rfl trivial ?_ rfl
  simp only [Try.ntmps33, List.size_toArray, List.length_cons, List.length_nil, Nat.reduceAdd, Nat.reduceSub, Array.replicate_succ, Array.replicate_zero, List.push_toArray, List.append_toArray, List.nil_append, List.cons_append]
  gi_wp2_with (first
    | (gi_at_range; refine wpListIn_range_own _ rfl _ 43 rfl 51 3 Try.law51 Try.ul43 _ b m _ rfl hown ?_; intro w0 hrg0 hg0 hs0)
    | gi_in)
  go_frame
  gi_loopw [3] (fun _ wr => ∃ (left : Lit → Bool) (cnt : Nat) (done : L2), PRg wr b W.heap.size m D left cnt ∧ done.length + cnt ≤ Maps.size D ∧ Hid (PPart D L left done) ∧ J (done.map (·.1)) wr) (fun _ wr => wr.rangeLeft b W.heap.size)
  case atStart =>
    exact ⟨_, _, [], hrg0, by simp, Lib.hid (PPart.start HD.out), HJ.out [] W w0 none h0 hg0 (fun r e => by cases e)⟩
  case round =>
    obtain ⟨left, cnt, done, hrg, hcs, HPP, hJs⟩ := hrel
    gi_wp2_with (first
      | (gi_at_next; refine wpListIn_next_ranges _ rfl _ rfl 51 Try.law51 (plainElem Try.prog 3) id id (fun key _ _ => ⟨key, rfl⟩) (fun v _ _ => ⟨v, rfl⟩) b W.heap.size m _ _ _ rfl hrg ?_ ?_)
      | gi_in)
    · intro hc0 hl0
      have HL0 := Lib.hid hl0
      clear hl0
      gi_wp2
      go_end0
      exact ⟨⟨_, rfl⟩, .inl ⟨_, HPP.out.keys HL0.out HP.out, hJs⟩⟩
    · intro x c kl yd yp w2 cnt2 hkey hlk hv hat hrg2 hlt hg2 hs2 hen
      obtain ⟨⟨m1, m2⟩, hkp, hmem⟩ := HPP.out.pd.key kl (HPP.out.sub kl hlk)
      have ex : x = pV (m1, m2) := Try.law51.inj hkey hkp
      subst ex
      have HPP2 : Hid (PPart D L (fun z => left z && !z.sameKey kl) (done ++ [((m1, m2), cf L (m1, m2))])) := Lib.hid (HPP.out.step hkp hlk hmem)
      have hJ2 : J (done.map (·.1)) w2 := HJ.out _ wr w2 (some W.heap.size) hJs hg2 (fun r e => by cases e; exact ⟨Nat.le_refl _, hrg.iter_walk⟩)
      obtain ⟨wz, HWZ⟩ : ∃ z, Hid (z = w2.alloc (.cells #[.int .i64 m1, .int .i64 m2] 51)) := ⟨_, Lib.hid rfl⟩
      have hJ3 : J (done.map (·.1)) wz := by rw [HWZ.out]; exact HJ.out _ w2 _ none hJ2 (World.grownBy_alloc _ _ none) (fun r e => by cases e)
      have hrgz : PRg wz b W.heap.size m D (fun z => left z && !z.sameKey kl) cnt2 := by rw [HWZ.out]; exact hrg2.alloc _
      have hz := heap_alloc_new w2 (.cells #[.int .i64 m1, .int .i64 m2] 51)
      obtain ⟨z1, z2, _, _⟩ := box2_c hz
      obtain ⟨fn, tmps, assign, body, hy, hR⟩ := HY.out (done.map (·.1)) (m1, m2) wz hJ3 (by rw [List.length_map]; omega)
      rw [HWZ.out] at hy
      have HRR := Lib.hid hR
      have HRGZ := Lib.hid hrgz
      have hen' : (Instr.entry (.pointer (some ⟨W.heap.size, 0, none⟩))).run Try.prog w2 = .ok (.tuple #[.agg #[.int .i64 m1, .int .i64 m2], c]) w2 := hen
      clear hs2 hkey hv hat hrg2 hg2 hJ2 hJ3 hz hR hrgz hen hJs
      gi_wp2
      rw [← HWZ.out]
      refine ⟨wideD, HRR.out.mono ?_⟩
      rintro e W3 (⟨rfl, hJ4, hk3⟩ | ⟨rfl, hJx3⟩)
      · have hrg3 := HRGZ.out.of_walks hk3
        have HJ4 := Lib.hid hJ4
        clear hJ4 hk3
        gi_wp2
        go_roundw
        case rel => exact ⟨_, cnt2, done ++ [((m1, m2), cf L (m1, m2))], hrg3, by rw [List.length_append, List.length_singleton]; omega, HPP2, by rw [List.map_append]; exact HJ4.out⟩
        case measure => rw [hrg3.left_eq, hrg.left_eq]; exact hlt
      · gi_wp2
        refine bodyPost_ret (results_none rfl _ _ _) rfl ?_
        exact ⟨⟨_, rfl⟩, .inr ⟨done.map (·.1) ++ [(m1, m2)], trivial, hJx3⟩⟩
set_option maxHeartbeats 1000000 in
theorem keys_in (nn mb : Nat) (w : World) :
    CallsIn Fence.wide nn Try.prog 14 #[.map (some mb)] w fun e w' => e = .returned (.func (.func 33) #[] #[.pointer (some ⟨w.heap.size, 0, none⟩)]) ∧ w' = w.alloc (.cells #[.map (some mb)] 43) := by
  refine callsIn_of_wp Try.func14 rfl trivial ?_ rfl
  simp only [Try.ntmps14, List.size_toArray, List.length_cons, List.length_nil, Nat.reduceAdd, Nat.reduceSub, Array.replicate_succ, Array.replicate_zero, List.push_toArray, List.append_toArray, List.nil_append, List.cons_append]
  gi_wp2
  go_ret
  exact ⟨rfl, rfl⟩
end Go.Proofs.Ytlicglicfijelaa
