/- Walks: Below, Above, Through. -/
import Derived.Test.YtgjmjbgicfkojaaGreatW12
import Derived.Test.YtgjmjbgicfkojaaGreatMAll
/- Walks: Below, Above, Through. -/
namespace Go.Proofs.YtgjmjbgicfkojaaGreat
open Go.RowKit

/- a strand's two arcs as a value -/
abbrev twoV (a b : Int) : Value := .agg #[.int .i64 a, .int .i64 b]
theorem two_c {W : World} {B t : Nat} {a b : Value} (h : W.heap[B]? = some (.cells #[a, b] t (0, 0))) : W.cell? ⟨B, 0, none⟩ = some a ∧ W.cell? ⟨B, 1, none⟩ = some b ∧ W.frozen? ⟨B, 0, none⟩ = false ∧ W.frozen? ⟨B, 1, none⟩ = false := by
  refine ⟨cell_of_row _ _ 0 _ t (0, 0) h, cell_of_row _ _ 1 _ t (0, 0) h, ?_, ?_⟩ <;> simp [World.frozen?, h]
theorem four_c {W : World} {B t : Nat} {a b c d : Value} (h : W.heap[B]? = some (.cells #[a, b, c, d] t (0, 0))) :
    W.cell? ⟨B, 0, none⟩ = some a ∧ W.cell? ⟨B, 1, none⟩ = some b ∧ W.cell? ⟨B, 2, none⟩ = some c ∧ W.cell? ⟨B, 3, none⟩ = some d ∧
    W.frozen? ⟨B, 0, none⟩ = false ∧ W.frozen? ⟨B, 1, none⟩ = false ∧ W.frozen? ⟨B, 2, none⟩ = false ∧ W.frozen? ⟨B, 3, none⟩ = false := by
  refine ⟨cell_of_row _ _ 0 _ t (0, 0) h, cell_of_row _ _ 1 _ t (0, 0) h, cell_of_row _ _ 2 _ t (0, 0) h, cell_of_row _ _ 3 _ t (0, 0) h, ?_, ?_, ?_, ?_⟩ <;> simp [World.frozen?, h]
theorem five_c {W : World} {B t : Nat} {a b c d e : Value} (h : W.heap[B]? = some (.cells #[a, b, c, d, e] t (0, 0))) :
    W.cell? ⟨B, 0, none⟩ = some a ∧ W.cell? ⟨B, 1, none⟩ = some b ∧ W.cell? ⟨B, 2, none⟩ = some c ∧ W.cell? ⟨B, 3, none⟩ = some d ∧ W.cell? ⟨B, 4, none⟩ = some e := by
  refine ⟨cell_of_row _ _ 0 _ t (0, 0) h, cell_of_row _ _ 1 _ t (0, 0) h, cell_of_row _ _ 2 _ t (0, 0) h, cell_of_row _ _ 3 _ t (0, 0) h, cell_of_row _ _ 4 _ t (0, 0) h⟩
theorem four_set {W : World} {B t : Nat} {a b c d : Value} (h : W.heap[B]? = some (.cells #[a, b, c, d] t (0, 0))) (a' b' c' d' : Value) :
    ((((W.setCell ⟨B, 0, none⟩ a').setCell ⟨B, 1, none⟩ b').setCell ⟨B, 2, none⟩ c').setCell ⟨B, 3, none⟩ d').heap[B]? = some (.cells #[a', b', c', d'] t (0, 0)) := by
  unfold World.setCell; simp [Array.getElem?_modify, h]
theorem four_fr (W : World) (B : Nat) (a b c d : Value) : Fr (fun k => k = B) W ((((W.setCell ⟨B, 0, none⟩ a).setCell ⟨B, 1, none⟩ b).setCell ⟨B, 2, none⟩ c).setCell ⟨B, 3, none⟩ d) :=
  ((((Fr.refl (fun k => k = B) W).setCell (a := ⟨B, 0, none⟩) (.inl rfl) _).setCell (a := ⟨B, 1, none⟩) (.inl rfl) _).setCell (a := ⟨B, 2, none⟩) (.inl rfl) _).setCell (a := ⟨B, 3, none⟩) (.inl rfl) _
theorem below_any (x : Kn.Cr) (w : World) : Calls Tryz.prog 88 #[crV x] w (fun e w' => e = .returned (twoV x.a x.c) ∧ New w w') := by
  obtain ⟨a, b, c, d, p⟩ := x
  go_enter Tryz.func88, Tryz.ntmps88
  go_wp2
  have HN := Lib.hid (((Fr.refl (fun _ => False) w).alloc (.cells #[.int .i64 a, .int .i64 b, .int .i64 c, .int .i64 d, .bool p] 75)).alloc (.cells #[.int .i64 a, .int .i64 c] 104))
  have hz := heap_alloc_new (w.alloc (.cells #[.int .i64 a, .int .i64 b, .int .i64 c, .int .i64 d, .bool p] 75)) (.cells #[.int .i64 a, .int .i64 c] 104)
  rw [World.size_alloc] at hz
  obtain ⟨c1, c2, _⟩ := two_c hz
  exact bodyPost_ret (v := twoV a c) (by simp [results, Tryz.results88, go_sem, c1, c2]) rfl ⟨rfl, HN.out⟩
/- the strand above: where it comes in, where it goes out -/
def upA (x : Kn.Cr) : Int := if x.p then x.d else x.b
def upB (x : Kn.Cr) : Int := if x.p then x.b else x.d
theorem above_any (x : Kn.Cr) (w : World) : Calls Tryz.prog 89 #[crV x] w (fun e w' => e = .returned (twoV (upA x) (upB x)) ∧ New w w') := by
  obtain ⟨a, b, c, d, p⟩ := x
  go_enter Tryz.func89, Tryz.ntmps89
  cases p
  · go_wp2
    have HN := Lib.hid (((Fr.refl (fun _ => False) w).alloc (.cells #[.int .i64 a, .int .i64 b, .int .i64 c, .int .i64 d, .bool false] 75)).alloc (.cells #[.int .i64 b, .int .i64 d] 104))
    have hz := heap_alloc_new (w.alloc (.cells #[.int .i64 a, .int .i64 b, .int .i64 c, .int .i64 d, .bool false] 75)) (.cells #[.int .i64 b, .int .i64 d] 104)
    rw [World.size_alloc] at hz
    obtain ⟨c1, c2, _⟩ := two_c hz
    exact bodyPost_ret (v := twoV b d) (by simp [results, Tryz.results89, go_sem, c1, c2]) rfl ⟨rfl, HN.out⟩
  · go_wp2
    have HN := Lib.hid (((Fr.refl (fun _ => False) w).alloc (.cells #[.int .i64 a, .int .i64 b, .int .i64 c, .int .i64 d, .bool true] 75)).alloc (.cells #[.int .i64 d, .int .i64 b] 104))
    have hz := heap_alloc_new (w.alloc (.cells #[.int .i64 a, .int .i64 b, .int .i64 c, .int .i64 d, .bool true] 75)) (.cells #[.int .i64 d, .int .i64 b] 104)
    rw [World.size_alloc] at hz
    obtain ⟨c1, c2, _⟩ := two_c hz
    exact bodyPost_ret (v := twoV d b) (by simp [results, Tryz.results89, go_sem, c1, c2]) rfl ⟨rfl, HN.out⟩
abbrev tieV (x : Kn.Cr) : Value := .agg #[.int .i64 x.a, .int .i64 x.c, .int .i64 (upA x), .int .i64 (upB x)]
set_option maxRecDepth 100000 in
set_option maxHeartbeats 2000000 in
theorem through_any (x : Kn.Cr) (w : World) : Calls Tryz.prog 75 #[crV x] w (fun e w' => e = .returned (tieV x) ∧ New w w') := by
  obtain ⟨a, b, c, d, p⟩ := x
  obtain ⟨ua, HUA⟩ : ∃ ua, Hid (upA ⟨a, b, c, d, p⟩ = ua) := ⟨_, Lib.hid rfl⟩
  obtain ⟨ub, HUB⟩ : ∃ ub, Hid (upB ⟨a, b, c, d, p⟩ = ub) := ⟨_, Lib.hid rfl⟩
  go_enter Tryz.func75, Tryz.ntmps75
  go_wp2
  obtain ⟨w1, HW1⟩ : ∃ w1, Hid (w1 = (w.alloc (.cells #[.int .i64 a, .int .i64 b, .int .i64 c, .int .i64 d, .bool p] 75)).alloc (.cells #[.int .i64 0, .int .i64 0, .int .i64 0, .int .i64 0] 146)) := ⟨_, Lib.hid rfl⟩
  rw [← HW1.out]
  have hN1 : New w w1 := by rw [HW1.out]; exact ((Fr.refl _ w).alloc _).alloc _
  have hb1 : w1.heap[w.heap.size]? = some (.cells #[.int .i64 a, .int .i64 b, .int .i64 c, .int .i64 d, .bool p] 75 (0, 0)) := by
    rw [HW1.out]; exact ((Fr.refl (fun _ => False) _).alloc _).blk (heap_alloc_new w _) fun x => x
  have hb2 : w1.heap[w.heap.size + 1]? = some (.cells #[.int .i64 0, .int .i64 0, .int .i64 0, .int .i64 0] 146 (0, 0)) := by
    have h2 := heap_alloc_new (w.alloc (.cells #[.int .i64 a, .int .i64 b, .int .i64 c, .int .i64 d, .bool p] 75)) (.cells #[.int .i64 0, .int .i64 0, .int .i64 0, .int .i64 0] 146)
    rw [World.size_alloc] at h2
    rw [HW1.out]; exact h2
  have hS0 : (fun w' : World => w'.cell? ⟨w.heap.size, 0, none⟩ = some (.int .i64 a) ∧ w'.cell? ⟨w.heap.size, 1, none⟩ = some (.int .i64 b) ∧ w'.cell? ⟨w.heap.size, 2, none⟩ = some (.int .i64 c) ∧ w'.cell? ⟨w.heap.size, 3, none⟩ = some (.int .i64 d) ∧ w'.cell? ⟨w.heap.size, 4, none⟩ = some (.bool p)) w1.drew := five_c (W := w1.drew) hb1
  have HR0 : Hid (w1.drew.heap[w.heap.size + 1]? = some (.cells #[.int .i64 0, .int .i64 0, .int .i64 0, .int .i64 0] 146 (0, 0))) := Lib.hid hb2
  have HN0 : Hid (New w w1.drew) := Lib.hid hN1.drew
  have HB0 : Hid (w1.drew.heap[w.heap.size]? = some (.cells #[.int .i64 a, .int .i64 b, .int .i64 c, .int .i64 d, .bool p] 75 (0, 0))) := Lib.hid hb1
  clear hb1 hb2 hN1
  refine wp_region_held_drew (S := fun w' => w'.cell? ⟨w.heap.size, 0, none⟩ = some (.int .i64 a) ∧ w'.cell? ⟨w.heap.size, 1, none⟩ = some (.int .i64 b) ∧ w'.cell? ⟨w.heap.size, 2, none⟩ = some (.int .i64 c) ∧ w'.cell? ⟨w.heap.size, 3, none⟩ = some (.int .i64 d) ∧ w'.cell? ⟨w.heap.size, 4, none⟩ = some (.bool p)) (by kernel_rfl) hS0 (fun hHeld => ?_)
  clear hS0
  generalize w1.drew = r0 at hHeld HR0 HN0 HB0 ⊢
  refine' wpAnyH_take (i := 0) (v := _) rfl (by kernel_rfl) (by kernel_rfl) (by kernel_rfl) (fun _ _ _ h => h) (Or.inl ⟨by rfl, ?hy⟩) (by assumption) ?rest
  case hy => (intro w' hSw; (try dsimp only at hSw); go_simp <;> with_reducible rfl)
  case rest =>
  (try simp only [Act.put, List.getElem_toArray, List.getElem_cons_zero, List.getElem_cons_succ, List.setIfInBounds_toArray, List.set_cons_zero, List.set_cons_succ])
  refine' wpAnyH_take (i := 2) (v := _) rfl (by kernel_rfl) (by kernel_rfl) (by kernel_rfl) (fun _ _ _ h => h) (Or.inl ⟨by rfl, ?hy⟩) (by assumption) ?rest
  case hy => (intro w' hSw; (try dsimp only at hSw); go_simp <;> with_reducible rfl)
  case rest =>
  (try simp only [Act.put, List.getElem_toArray, List.getElem_cons_zero, List.getElem_cons_succ, List.setIfInBounds_toArray, List.set_cons_zero, List.set_cons_succ])
  refine wpAnyH_ready (rs := [1]) (by kernel_rfl) (by simp) ?_
  refine AllReadyH.cons rfl (fun K hK => ?_) AllReadyH.nil
  (try simp only [List.getElem_toArray, List.getElem_cons_zero, List.getElem_cons_succ])
  go_simp
  refine (below_any ⟨a, b, c, d, p⟩ _).mono ?_
  rintro e r1 ⟨rfl, hF⟩
  have HB1 := Lib.hid (hF.blk HB0.out fun x => x)
  have HR1 := Lib.hid (hF.blk HR0.out fun x => x)
  have HN1 := Lib.hid (HN0.out.trans hF)
  clear hF
  go_wp2_with fail
  refine hK.out _ _ (five_c HB1.out) (fun hHeld => ?_)
  clear hK K
  (try simp only [Act.put, List.getElem_toArray, List.getElem_cons_zero, List.getElem_cons_succ, List.setIfInBounds_toArray, List.set_cons_zero, List.set_cons_succ])
  refine wpAnyH_ready (rs := [3]) (by kernel_rfl) (by simp) ?_
  refine AllReadyH.cons rfl (fun K hK => ?_) AllReadyH.nil
  (try simp only [List.getElem_toArray, List.getElem_cons_zero, List.getElem_cons_succ])
  go_simp
  refine (above_any ⟨a, b, c, d, p⟩ _).mono ?_
  rintro e r2 ⟨rfl, hF⟩
  rw [HUA.out, HUB.out]
  have HB2 := Lib.hid (hF.blk HB1.out fun x => x)
  have HR2 := Lib.hid (hF.blk HR1.out fun x => x)
  have HN2 := Lib.hid (HN1.out.trans hF)
  clear hF
  go_wp2_with fail
  refine hK.out _ _ (five_c HB2.out) (fun hHeld => ?_)
  clear hK K
  (try simp only [Act.put, List.getElem_toArray, List.getElem_cons_zero, List.getElem_cons_succ, List.setIfInBounds_toArray, List.set_cons_zero, List.set_cons_succ])
  refine' wpAnyH_take (i := 4) (v := _) rfl (by kernel_rfl) (by kernel_rfl) (by kernel_rfl) (fun _ _ _ h => h) (Or.inl ⟨by rfl, ?hy⟩) (by assumption) ?rest
  case hy => (intro w' hSw; (try dsimp only at hSw); go_simp <;> with_reducible rfl)
  case rest =>
  (try simp only [Act.put, List.getElem_toArray, List.getElem_cons_zero, List.getElem_cons_succ, List.setIfInBounds_toArray, List.set_cons_zero, List.set_cons_succ])
  refine wpAnyH_ready (rs := [5]) (by kernel_rfl) (by simp) ?_
  refine AllReadyH.cons rfl (fun K hK => ?_) AllReadyH.nil
  (try simp only [List.getElem_toArray, List.getElem_cons_zero, List.getElem_cons_succ])
  obtain ⟨q1, q2, q3, q4, q5, q6, q7, q8⟩ := four_c HR2.out
  go_simp
  have HE := Lib.hid (four_set HR2.out (.int .i64 a) (.int .i64 c) (.int .i64 ua) (.int .i64 ub))
  have HF := Lib.hid (four_fr r2 (w.heap.size + 1) (.int .i64 a) (.int .i64 c) (.int .i64 ua) (.int .i64 ub))
  clear q1 q2 q3 q4 q5 q6 q7 q8
  refine hK.out _ _ (five_c (HF.out.blk HB2.out (by omega))) (fun hHeld => ?_)
  clear hK K
  (try simp only [Act.put, List.getElem_toArray, List.getElem_cons_zero, List.getElem_cons_succ, List.setIfInBounds_toArray, List.set_cons_zero, List.set_cons_succ])
  refine wpAnyH_done (by kernel_rfl) ?_ _
  obtain ⟨q1, q2, q3, q4, _⟩ := four_c HE.out
  have HN5 : Hid (New w _) := Lib.hid (HN2.out.next HF.out fun i hi => .inr (by omega))
  go_wp2
  exact bodyPost_ret (v := .agg #[.int .i64 a, .int .i64 c, .int .i64 ua, .int .i64 ub]) (by simp [results, Tryz.results75, go_sem, q1, q2, q3, q4]) rfl ⟨by rw [← HUA.out, ← HUB.out], HN5.out⟩
end Go.Proofs.YtgjmjbgicfkojaaGreat

/- Walks: Index, Contains of numbers. -/
namespace Go.Proofs.YtgjmjbgicfkojaaGreat
open Go.RowKit

/- numbers in a row -/
def IntsAt (w : World) (g : Nat) (gs : List Int) : Prop := ∀ i, i < gs.length → w.cell? ⟨g, i, none⟩ = some (.int .i64 (gs.getD i 0))
theorem IntsAt.new {w w' : World} {g : Nat} {gs : List Int} (h : IntsAt w g gs) (k : New w w') : IntsAt w' g gs := fun i hi => k.cell (h i hi) fun x => x
set_option maxHeartbeats 1000000 in
theorem index_any (g n c : Nat) (gs : List Int) (v : Int) (w : World) (h : IntsAt w g gs) (hn : n = gs.length) (hl : n ≤ 16) :
    Calls Tryz.prog 102 #[.slice (some ⟨g, 0, none⟩) n c, .int .i64 v] w (fun e w' => (∃ r, e = .returned (.int .i64 r) ∧ (0 ≤ r ↔ v ∈ gs)) ∧ w' = w) := by
  have HN := Lib.hid hn
  have H := Lib.hid h
  clear hn h
  go_enter Tryz.func102, Tryz.ntmps102
  go_wp2
  go_loop [8] (fun i => ∃ k : Nat, k ≤ n ∧ i = .int .i64 k ∧ Hid (∀ j, j < k → gs.getD j 0 ≠ v)) (fun i => n - (intOf i).toNat)
  case atStart => exact ⟨0, by omega, rfl, Lib.hid fun j hj => by omega⟩
  case round =>
    obtain ⟨k, hk, rfl, HQ⟩ := hrel
    by_cases hkn : k < n
    · have hc := H.out k (by have := HN.out; omega)
      have i1 : (0 : Int) ≤ (k : Int) := by omega
      have i2 : (k : Int) < (n : Int) := by omega
      obtain ⟨u, HU⟩ : ∃ u, Hid (gs.getD k 0 = u) := ⟨_, Lib.hid rfl⟩
      rw [HU.out] at hc
      by_cases huv : v = u
      · have hb : (v == u) = true := by simpa using huv
        go_wp2
        go_ret
        refine ⟨⟨_, rfl, ?_⟩, rfl⟩
        constructor
        · intro _
          first | rw [← HU.out] | rw [huv, ← HU.out]
          have hkg : k < gs.length := by have := HN.out; omega
          rw [List.getD_eq_getElem?_getD, List.getElem?_eq_getElem hkg]
          exact List.getElem_mem hkg
        · intro _; omega
      · have hb : (v == u) = false := by simpa using huv
        go_wp2
        go_round
        case rel =>
          refine ⟨k + 1, by omega, by go_num, Lib.hid fun j hj => ?_⟩
          by_cases e : j = k
          · rw [e, HU.out]; exact fun k => huv k.symm
          · exact HQ.out j (by omega)
        case measure => simp [intOf]; omega
    · obtain rfl : k = n := by omega
      go_wp2
      go_ret
      refine ⟨⟨_, rfl, ?_⟩, rfl⟩
      constructor
      · intro h; omega
      · intro h
        obtain ⟨i, hi, e⟩ := List.mem_iff_getElem.1 h
        exact absurd (by rw [List.getD_eq_getElem?_getD, List.getElem?_eq_getElem hi]; exact e) (HQ.out i (by have := HN.out; omega))
set_option maxRecDepth 100000 in
set_option maxHeartbeats 1000000 in
theorem contains_any (g n c : Nat) (gs : List Int) (v : Int) (w : World) (h : IntsAt w g gs) (hn : n = gs.length) (hl : n ≤ 16) :
    Calls Tryz.prog 86 #[.slice (some ⟨g, 0, none⟩) n c, .int .i64 v] w (fun e w' => e = .returned (.bool (decide (v ∈ gs))) ∧ w' = w) := by
  have HN := Lib.hid hn
  have H := Lib.hid h
  clear hn h
  obtain ⟨r, HR⟩ : ∃ r, Hid (decide (v ∈ gs) = r) := ⟨_, Lib.hid rfl⟩
  rw [HR.out]
  go_enter Tryz.func86, Tryz.ntmps86
  go_wp2_with fail
  refine (index_any g n c gs v _ H.out HN.out hl).mono ?_
  rintro e w' ⟨⟨x, rfl, hx⟩, rfl⟩
  have HX : Hid (decide (0 ≤ x) = r) := Lib.hid (by rw [← HR.out, Bool.eq_iff_iff, decide_eq_true_eq, decide_eq_true_eq]; exact hx)
  clear hx
  go_wp2
  go_ret
  exact ⟨ret_bool HX.out, rfl⟩
end Go.Proofs.YtgjmjbgicfkojaaGreat

/- Walks: words for a bench; isCross, over, Tail. -/
namespace Go.Proofs.YtgjmjbgicfkojaaGreat
open Go.RowKit

/- a bench: a shape, and its faces -/
structure BeAt (w : World) (b s : Nat) (fv : Value) (X : List Kn.Cr) (L : Int) : Prop where
  blk : w.heap[b]? = some (.cells #[.pointer (some ⟨s, 0, none⟩), fv] 64 (0, 0))
  sh : ShAt w s X L
theorem BeAt.new {w w' : World} {b s : Nat} {fv : Value} {X : List Kn.Cr} {L : Int} (h : BeAt w b s fv X L) (k : New w w') : BeAt w' b s fv X L := ⟨k.blk h.blk fun x => x, k.shAt h.sh⟩
theorem BeAt.c {w : World} {b s : Nat} {fv : Value} {X : List Kn.Cr} {L : Int} (h : BeAt w b s fv X L) : w.cell? ⟨b, 0, none⟩ = some (.pointer (some ⟨s, 0, none⟩)) ∧ w.cell? ⟨b, 1, none⟩ = some fv :=
  ⟨cell_of_row _ _ 0 _ 64 (0, 0) h.blk, cell_of_row _ _ 1 _ 64 (0, 0) h.blk⟩
/- a shape's crossings, as they are read -/
theorem ShAt.crs {w : World} {b : Nat} {X : List Kn.Cr} {L : Int} (h : ShAt w b X L) : ∃ a c, w.cell? ⟨b, 0, none⟩ = some (.slice a X.length c) ∧ w.cell? ⟨b, 1, none⟩ = some (.int .i64 L) ∧ CrsAt w a X := by
  obtain ⟨v, bi, bo, base, s⟩ := h
  obtain ⟨a, c, rfl, hc⟩ := CrsAt.of_owns s.own
  exact ⟨a, c, s.c2.1, s.c2.2.1, hc⟩
def isCr (X : List Kn.Cr) (c : Int) : Bool := decide (0 ≤ c) && decide (c < X.length)
set_option maxRecDepth 100000 in
set_option maxHeartbeats 1000000 in
theorem isCross_any (b s : Nat) (fv : Value) (X : List Kn.Cr) (L : Int) (c : Int) (w : World) (h : BeAt w b s fv X L) (hl : X.length ≤ 16) :
    Calls Tryz.prog 51 #[.pointer (some ⟨b, 0, none⟩), .int .i64 c] w (fun e w' => e = .returned (.bool (isCr X c)) ∧ w' = w) := by
  obtain ⟨a, cc, h0, _, _⟩ := h.sh.crs
  obtain ⟨c0, _⟩ := h.c
  obtain ⟨n, hn⟩ : ∃ n, n = X.length := ⟨_, rfl⟩
  unfold isCr
  rw [← hn] at h0 hl ⊢
  clear h hn
  go_enter Tryz.func51, Tryz.ntmps51
  by_cases hc : 0 ≤ c
  · have hb : decide (0 ≤ c) = true := decide_eq_true hc
    go_wp2
    go_ret
    exact ⟨ret_bool (by simp [hc]), rfl⟩
  · have hb : decide (0 ≤ c) = false := decide_eq_false hc
    go_wp2
    go_ret
    exact ⟨ret_bool (by simp [hc]), rfl⟩
def ovA (X : List Kn.Cr) (a : Nat) : Bool := decide ((Kn.inP X a).2 % 2 = 1) && decide ((Kn.outP X a).2 % 2 = 1)
def ovB (X : List Kn.Cr) (a : Nat) : Bool := (!decide ((Kn.inP X a).2 % 2 = 1)) && !decide ((Kn.outP X a).2 % 2 = 1)
theorem emod2 (k : Nat) : ((k : Int) % 2 == 1) = decide (k % 2 = 1) := by
  rw [Bool.eq_iff_iff, beq_iff_eq, decide_eq_true_eq]; omega
set_option maxRecDepth 100000 in
set_option maxHeartbeats 2000000 in
theorem over_any (b s : Nat) (fv : Value) (X : List Kn.Cr) (L : Int) (a : Nat) (w : World) (h : BeAt w b s fv X L) (hl : X.length ≤ 16) (ha : Kn.isArc X a) :
    Calls Tryz.prog 63 #[.pointer (some ⟨b, 0, none⟩), .int .i64 a] w (fun e w' => e = .returned (.tuple #[.bool (ovA X a), .bool (ovB X a)]) ∧ New w w') := by
  have hn0 : 0 < X.length := by have := ha.1; have := ha.2; unfold Kn.nArcs at this; omega
  obtain ⟨n, bx, ox, cc, bi, bo, r⟩ := h.sh.read hn0
  have hal : a < 2 * n + 1 := by have := ha.2; unfold Kn.nArcs at this; have := r.len; omega
  have i1 : (0 : Int) ≤ (a : Int) := by omega
  have i2 : (a : Int) < 2 * (n : Int) + 1 := by omega
  obtain ⟨c0, _⟩ := h.c
  obtain ⟨g1, g2⟩ := r.pi a hal
  obtain ⟨k1, k2⟩ := r.po a hal
  have g0 := r.c2
  have k0 := r.c3
  obtain ⟨x, HX⟩ : ∃ x, Hid ((Kn.inP X a).2 = x) := ⟨_, Lib.hid rfl⟩
  obtain ⟨y, HY⟩ : ∃ y, Hid ((Kn.outP X a).2 = y) := ⟨_, Lib.hid rfl⟩
  rw [HX.out] at g2
  rw [HY.out] at k2
  obtain ⟨p, HP⟩ : ∃ p, Hid (decide (x % 2 = 1) = p) := ⟨_, Lib.hid rfl⟩
  obtain ⟨q, HQ⟩ : ∃ q, Hid (decide (y % 2 = 1) = q) := ⟨_, Lib.hid rfl⟩
  have hp : ((x : Int) % 2 == 1) = p := (emod2 x).trans HP.out
  have hq : ((y : Int) % 2 == 1) = q := (emod2 y).trans HQ.out
  have HR : Hid (ovA X a = (p && q) ∧ ovB X a = (!p && !q)) := Lib.hid (by
    unfold ovA ovB
    rw [HX.out, HY.out, HP.out, HQ.out]; exact ⟨rfl, rfl⟩)
  rw [HR.out.1, HR.out.2]
  clear r h ha
  go_enter Tryz.func63, Tryz.ntmps63
  obtain ⟨r1, H1⟩ : ∃ r, Hid ((p && q) = r) := ⟨_, Lib.hid rfl⟩
  obtain ⟨r2, H2⟩ : ∃ r, Hid ((!p && !q) = r) := ⟨_, Lib.hid rfl⟩
  rw [H1.out, H2.out]
  cases p <;> cases q
  · go_wp2_with fail
    go_quiet (fail)
    go_wp2
    go_ret2
    exact ⟨by rw [← H1.out, ← H2.out]; rfl, (Fr.refl _ _).drewN _⟩
  · go_wp2_with fail
    go_quiet (fail)
    go_wp2
    go_ret2
    exact ⟨by rw [← H1.out, ← H2.out]; rfl, (Fr.refl _ _).drewN _⟩
  · go_wp2_with fail
    go_quiet (fail)
    go_wp2
    go_ret2
    exact ⟨by rw [← H1.out, ← H2.out]; rfl, (Fr.refl _ _).drewN _⟩
  · go_wp2_with fail
    go_quiet (fail)
    go_wp2
    go_ret2
    exact ⟨by rw [← H1.out, ← H2.out]; rfl, (Fr.refl _ _).drewN _⟩
theorem tail_any (b a : Nat) (back : Bool) (X : List Kn.Cr) (L : Int) (w : World) (h : ShAt w b X L) (hl : X.length ≤ 16) (ha : Kn.isArc X a) :
    Calls Tryz.prog 62 #[.pointer (some ⟨b, 0, none⟩), .agg #[.int .i64 a, .bool back]] w (GavePl (Kn.head X (a, !back)) w) := by
  obtain ⟨p, HP⟩ : ∃ p, Hid (Kn.head X (a, !back) = p) := ⟨_, Lib.hid rfl⟩
  rw [HP.out]
  obtain ⟨x, y⟩ := p
  have H := Lib.hid h
  have HA := Lib.hid ha
  clear h ha
  go_enter Tryz.func62, Tryz.ntmps62
  go_wp2_with fail
  have hz := heap_alloc_new (w.alloc (.cells #[.int .i64 (a : Int), .bool back] 26)) (.cells #[.int .i64 0, .int .i64 0] 82)
  rw [World.size_alloc] at hz
  have HZ := Lib.hid hz
  have HN := Lib.hid (((Fr.refl (fun _ => False) w).alloc (.cells #[.int .i64 (a : Int), .bool back] 26)).alloc (.cells #[.int .i64 0, .int .i64 0] 82))
  clear hz
  refine (head_any b a (!back) X L _ (New.shAt HN.out H.out) hl HA.out).mono ?_
  rintro e w4 ⟨rfl, hF⟩
  rw [HP.out]
  have HR := Lib.hid (hF.blk HZ.out fun x => x)
  have HF := Lib.hid (HN.out.trans hF)
  clear hF
  obtain ⟨m1, m2, m3, m4, m5, m6⟩ := res2 HR.out
  go_wp2
  refine bodyPost_ret (v := .agg #[.int .i64 (x : Int), .int .i64 (y : Int)]) (by simp [results, Tryz.results62, go_sem, m5, m6]) rfl ⟨rfl, ?_⟩
  exact (HF.out.setCell (.inr (Nat.le_succ _)) _).setCell (.inr (Nat.le_succ _)) _
end Go.Proofs.YtgjmjbgicfkojaaGreat
