/- What comes of a move is planar and smaller: plain mathematics. -/
import Derived.Test.YtgjmjbgicfkojaaGreatN16
import Derived.Test.YtgjmjbgicfkojaaGreatMAll
import Derived.ScopeJumps
import Derived.WalkMore
/- What comes of a move is planar and smaller: plain mathematics. -/
namespace Go.Proofs.YtgjmjbgicfkojaaGreat
open Kn

/- a diagram that may be, and is planar -/
def Good (X : List Cr) (L : Int) : Prop := mayB X L = true ∧ planarB X = true
theorem takeO_good {X Y : List Cr} {L N : Int} {gone : Nat → Bool} (hg : Good X L) (h1 : Ok (takeL X gone) ∧ (planarB X = true → planarB (takeL X gone) = true)) (h2 : (kept X.length gone).length < X.length) (h : takeO X L gone = .ok Y N) : Good Y N ∧ Y.length < X.length := by
  unfold takeO at h
  split at h
  · rename_i h16
    cases h
    have hok := mayB_ok hg.1
    have hL : 0 ≤ L := by
      have h3 := hg.1
      unfold mayB at h3
      simp only [Bool.and_eq_true, decide_eq_true_eq] at h3
      exact h3.1.1.1.2
    have hlen := takeL_len (X := X) gone
    refine ⟨⟨?_, h1.2 hg.2⟩, by omega⟩
    have h4 := (ok_iff _).2 h1.1
    unfold mayB
    simp only [Bool.and_eq_true, decide_eq_true_eq, Bool.not_eq_true', Bool.and_eq_false_iff, decide_eq_false_iff_not]
    refine ⟨⟨⟨⟨by omega, by omega⟩, h16⟩, ?_⟩, h4⟩
    by_cases c : (takeL X gone).length = 0
    · right
      have := hok.1.takeN_pos gone (by omega) (List.length_eq_zero_iff.1 c)
      omega
    · exact .inl c
  · cases h
theorem doO_ok {X Y : List Cr} {L N : Int} {o : Out} (h : doO X L o = .ok Y N) : o = .ok Y N := by
  unfold doO at h
  split at h
  · exact h
  · cases h
theorem face_two {X : List Cr} (hX : Ok X) {d e : Dt} (hf : [d, e] ∈ facesL X) : Kn.isArc X d.1 ∧ Kn.isArc X e.1 ∧ left X d = e ∧ left X e = d := by
  have hp := faces_perm hX
  have hd : Kn.isArc X d.1 := mem_darts.1 (hp.mem_iff.1 (List.mem_flatten.2 ⟨_, hf, by simp⟩))
  have he : Kn.isArc X e.1 := mem_darts.1 (hp.mem_iff.1 (List.mem_flatten.2 ⟨_, hf, by simp⟩))
  have hnd : (facesL X).flatten.Nodup := hp.nodup_iff.2 (darts_nodup X)
  have hde : d ≠ e := by
    have := (List.pairwise_flatten.1 hnd).1 _ hf
    simp at this
    exact this
  have hm : [pk (head X d), pk (head X e)] ∈ (facesL X).map (List.map fun d => pk (head X d)) := List.mem_map.2 ⟨_, hf, rfl⟩
  have key := hX.faces_is _ hm
  have inj : ∀ {a b : Dt}, Kn.isArc X a.1 → Kn.isArc X b.1 → pk (head X a) = pk (head X b) → a = b := fun ha hb h => hX.head_inj ha hb (pk_inj (hX.isPl_head ha).2 (hX.isPl_head hb).2 h)
  have orb1 : ∀ {x : Dt}, Kn.isArc X x.1 → Orb (fac X) (pk (head X x)) (pk (head X (left X x))) := fun {x} hx => ⟨1, hX.fac_head hx⟩
  have m1 : left X d = d ∨ left X d = e := by
    have := (key _ (by simp) _).2 (orb1 hd)
    rcases List.mem_cons.1 this with h | h
    · exact .inl (inj (hX.isArc_left hd) hd h)
    · exact .inr (inj (hX.isArc_left hd) he (List.mem_singleton.1 h))
  have m2 : left X e = d ∨ left X e = e := by
    have := (key _ (by simp) _).2 (orb1 he)
    rcases List.mem_cons.1 this with h | h
    · exact .inl (inj (hX.isArc_left he) hd h)
    · exact .inr (inj (hX.isArc_left he) he (List.mem_singleton.1 h))
  have m3 : left X d ≠ d := fun h => by
    have hfix : ∀ n, it (fac X) n (pk (head X d)) = pk (head X d) := fun n => by
      induction n with
      | zero => rfl
      | succ n ih =>
        have h2 := hX.fac_head hd
        rw [h] at h2
        first
          | (show fac X (it (fac X) n _) = _; rw [ih, h2])
          | (show it (fac X) n (fac X _) = _; rw [h2, ih])
    have := (key (pk (head X d)) (by simp) (pk (head X e))).1 (by simp)
    obtain ⟨n, hn⟩ := this
    rw [hfix n] at hn
    exact hde (inj hd he hn)
  have h1 := m1.resolve_left m3
  refine ⟨hd, he, h1, m2.resolve_right fun h => ?_⟩
  have a1 := hX.fac_head hd
  have a2 := hX.fac_head he
  rw [h1] at a1
  rw [h] at a2
  have := hX.fac_pm.inj _ _ (a1.trans a2.symm)
  exact hde (inj hd he this)
theorem tail_left {X : List Cr} (hX : Ok X) {d : Dt} (hd : Kn.isArc X d.1) : head X ((left X d).1, !(left X d).2) = ((head X d).1, ((head X d).2 + 3) % 4) := by
  have hq : isPl X ((head X d).1, ((head X d).2 + 3) % 4) := isPl_turn (hX.isPl_head hd) 3
  have := hX.end_eq hq
  show endP X (!!(cm X ((head X d).1, ((head X d).2 + 3) % 4))) (arcN X ((head X d).1, ((head X d).2 + 3) % 4)) = _
  rw [Bool.not_not]; exact this
theorem both_comm (x y : Nat) : both x y = both y x := by funext d; simp [Bool.or_comm]
theorem unO_good {X Y : List Cr} {L N : Int} {c : Nat} (hg : Good X L) (h : unO X L c = .ok Y N) : Good Y N ∧ Y.length < X.length := by
  unfold unO at h
  split at h
  · rename_i hc
    split at h
    · rename_i hcu
      have hcl : c < X.length := by
        unfold isCr at hc
        simp only [Bool.and_eq_true, decide_eq_true_eq] at hc
        omega
      simp only [Int.toNat_natCast] at h hcu
      unfold curlB at hcu
      rw [List.any_eq_true] at hcu
      obtain ⟨s, hs, hcs⟩ := hcu
      refine takeO_good hg ((mayB_ok hg.1).1.take_kink hcl (List.mem_range.1 hs) (of_decide_eq_true hcs)) ?_ h
      have := kept_only (n := X.length) hcl
      omega
    · cases h
  · cases h
theorem pullO_good {X Y : List Cr} {L N : Int} {a b : Nat} (hg : Good X L) (h : pullO X L a b = .ok Y N) : Good Y N ∧ Y.length < X.length := by
  unfold pullO at h
  split at h
  · rename_i hc
    split at h
    · rename_i hf
      simp only [Bool.and_eq_true, decide_eq_true_eq] at hc
      obtain ⟨⟨ha, hb⟩, hab⟩ := hc
      have hal : a < X.length := by unfold isCr at ha; simp only [Bool.and_eq_true, decide_eq_true_eq] at ha; omega
      have hbl : b < X.length := by unfold isCr at hb; simp only [Bool.and_eq_true, decide_eq_true_eq] at hb; omega
      have hne : a ≠ b := fun e => hab (by rw [e])
      simp only [Int.toNat_natCast] at h
      have hX := (mayB_ok hg.1).1
      rw [List.any_eq_true] at hf
      obtain ⟨f, hf1, hf2⟩ := hf
      match f, hf1, hf2 with
      | [d, e], hf1, hf2 =>
        obtain ⟨hd, he, h1, h2⟩ := face_two hX hf1
        obtain ⟨b1, b2⟩ := hX.bigon_of hd h1 h2
        have t1 := tail_left hX hd
        have t2 := tail_left hX he
        rw [h1] at t1
        rw [h2] at t2
        unfold bigF at hf2
        simp only [t1, t2, Bool.and_eq_true, Bool.or_eq_true, decide_eq_true_eq] at hf2
        have hxl : (head X e).1 < X.length := (hX.isPl_head he).1
        have hyl : (head X d).1 < X.length := (hX.isPl_head hd).1
        have hs4 : ((head X e).2 + 3) % 4 < 4 := Nat.mod_lt _ (by omega)
        have hxy : (head X e).1 ≠ (head X d).1 := by omega
        have oB : other X ((head X e).1, (((head X e).2 + 3) % 4 + 1) % 4) = ((head X d).1, ((head X d).2 + 3) % 4) := by
          have h4 := (hX.isPl_head he).2
          rw [show (((head X e).2 + 3) % 4 + 1) % 4 = (head X e).2 by omega]
          exact b2
        have hk := hX.take_bigon hxl hyl hxy hs4 (hX.isPl_head hd).2 b1 oB
        have hgone : both a b = both (head X e).1 (head X d).1 := by
          rcases hf2.1 with h | h
          · rw [show (head X e).1 = a by omega, show (head X d).1 = b by omega]
          · rw [show (head X e).1 = b by omega, show (head X d).1 = a by omega, both_comm]
        rw [← hgone] at hk
        refine takeO_good hg hk ?_ h
        have := kept_both (n := X.length) hal hbl hne
        omega
    · cases h
  · cases h
theorem doM_good {X Y : List Cr} {L N : Int} {m : Mv} (hg : Good X L) (h : doM X L m = .ok Y N) : Good Y N ∧ Y.length < X.length := by
  cases m with
  | un c => exact unO_good hg (doO_ok h)
  | pu a b => exact pullO_good hg (doO_ok h)
/- moves in a row -/
def runM : List Cr → Int → List Mv → Option (List Cr × Int)
  | X, L, [] => some (X, L)
  | X, L, m :: ms => match doM X L m with
    | .ok Y N => runM Y N ms
    | .no _ => none
theorem runM_snoc {Y Z : List Cr} {N K : Int} {m : Mv} : ∀ {ms : List Mv} {X : List Cr} {L : Int}, runM X L ms = some (Y, N) → doM Y N m = .ok Z K → runM X L (ms ++ [m]) = some (Z, K)
  | [], X, L, h, h2 => by
    simp only [runM, Option.some.injEq, Prod.mk.injEq] at h
    obtain ⟨rfl, rfl⟩ := h
    simp [runM, h2]
  | m' :: ms, X, L, h, h2 => by
    show (match doM X L m' with | .ok Y N => runM Y N (ms ++ [m]) | .no _ => none) = _
    have h : (match doM X L m' with | .ok Y N => runM Y N ms | .no _ => none) = some (Y, N) := h
    cases hd : doM X L m' with
    | ok A B => rw [hd] at h; exact runM_snoc h h2
    | no x => rw [hd] at h; cases h
/- what is refused where a diagram is planar and its crossings are there -/
theorem un_refused {X : List Cr} {L : Int} {c : Nat} (hg : Good X L) (hc : c < X.length) {x : Int} (h : doM X L (.un c) = .no x) : x = 8 ∨ x = 2 := by
  have h : doO X L (unO X L c) = .no x := h
  unfold doO at h
  rw [hg.1, hg.2] at h
  have h : unO X L c = .no x := h
  unfold unO at h
  rw [if_pos (by unfold isCr; simp; omega)] at h
  split at h
  · unfold takeO at h
    split at h
    · cases h
    · cases h; exact .inr rfl
  · cases h; exact .inl rfl
theorem pu_refused {X : List Cr} {L : Int} {a b : Nat} (hg : Good X L) (hab : a < b) (hb : b < X.length) {x : Int} (h : doM X L (.pu a b) = .no x) : x = 8 ∨ x = 2 := by
  have h : doO X L (pullO X L a b) = .no x := h
  unfold doO at h
  rw [hg.1, hg.2] at h
  have h : pullO X L a b = .no x := h
  unfold pullO at h
  rw [if_pos (by unfold isCr; simp; omega)] at h
  split at h
  · unfold takeO at h
    split at h
    · cases h
    · cases h; exact .inr rfl
  · cases h; exact .inl rfl
end Go.Proofs.YtgjmjbgicfkojaaGreat

/- Walks: Simple: words. -/
namespace Go.Proofs.YtgjmjbgicfkojaaGreat
open Go.RowKit

theorem Tryz.info28 : (Tryz.prog.info? 28).map (fun i => (i.zero, i.size, i.bytes)) = some (some (mvV 0 0 0 0 0 false false false), 8, 64) := by kernel_rfl
def Mv.cells : Mv → List Value
  | .un c => [.int .i64 2, .int .i64 (c : Nat), .int .i64 0, .int .i64 0, .bool false, .int .i64 0, .bool false, .bool false]
  | .pu a c => [.int .i64 4, .int .i64 (a : Nat), .int .i64 (c : Nat), .int .i64 0, .bool false, .int .i64 0, .bool false, .bool false]
theorem Mv.parts (m : Mv) : ∃ k x y : Int, m.cells = [.int .i64 k, .int .i64 x, .int .i64 y, .int .i64 0, .bool false, .int .i64 0, .bool false, .bool false] ∧ m.val = .agg #[.int .i64 k, .int .i64 x, .int .i64 y, .int .i64 0, .bool false, .int .i64 0, .bool false, .bool false] := by
  cases m with
  | un c => exact ⟨2, c, 0, rfl, rfl⟩
  | pu a c => exact ⟨4, a, c, rfl, rfl⟩
def mvCells (ms : List Mv) : List Value := ms.flatMap Mv.cells
theorem mvCells_snoc (ms : List Mv) (m : Mv) : mvCells (ms ++ [m]) = mvCells ms ++ m.cells := by simp [mvCells]
theorem wp_scope_jumps2 {P : Program} {a : Act} {w : World} {Q : Exit → Act → World → Prop} {c R : Code} (l : Nat) (J : Act → World → Prop) (μ : Act → World → Nat) (hf : findLabel c l = some (Code.skip.seq R))
    (pass : ∀ a w, J a w → R.wp P (Exit.jump l (fun a' w' => J a' w' ∧ μ a' w' < μ a w) Q) a w)
    (first : (∀ a w, J a w → R.wp P (Exit.jump l J Q) a w) → c.wp P (Exit.jump l J Q) a w) : (Code.scope c).wp P Q a w := by
  refine wp_scope_jumps l J μ hf (first fun a w h => wp_mono (pass a w h) fun e a' w' hq => ?_) fun a w h => wp_seq (wp_skip (pass a w h))
  cases e <;> first | exact hq | exact ⟨hq.1, hq.2.1⟩
/- all that takes crossings out is refused -/
def Stuck (X : List Kn.Cr) (L : Int) : Prop := (∀ i, i < X.length → (doM X L (.un i)).isNo) ∧ ∀ i j, i < j → j < X.length → (doM X L (.pu i j)).isNo
/- Simple at work -/
structure SmS (w wr : World) (B2 B7 : Nat) (X : List Kn.Cr) (L : Int) (ms : List Mv) (Y : List Kn.Cr) (N : Int) (ya : Option Addr) (yc : Nat) (v : Value) : Prop where
  new : New w wr
  res : wr.heap[B2]? = some (.cells #[.slice none 0 0, .int .i64 0] 24 (0, 0))
  now : wr.heap[B7]? = some (.cells #[.slice ya Y.length yc, .int .i64 N] 24 (0, 0))
  crs : CrsAt wr ya Y
  own : wr.ownsRow w.heap.size 28 8 v ms.length (mvCells ms)
  run : runM X L ms = some (Y, N)
  good : Good Y N
  len : ms.length + Y.length ≤ X.length
  l2 : w.heap.size ≤ B2
  l7 : w.heap.size ≤ B7
  ne : ¬ B2 = B7
  gx : Good X L
theorem eight_cells {w : World} {a b c d e f g h : Value} {t : TypeId} {B : Nat} (hB : B = w.heap.size) : ∀ (j : Nat) (u : Value), [a, b, c, d, e, f, g, h][j]? = some u → (w.alloc (.cells #[a, b, c, d, e, f, g, h] t)).cell? ((⟨B, 0, none⟩ : Addr).add j) = some u := by
  subst hB
  intro j u hu
  rw [addr_add, Nat.zero_add]
  have := cell_of_row (w.alloc (.cells #[a, b, c, d, e, f, g, h] t)) w.heap.size j _ t (0, 0) (heap_alloc_new w _)
  rw [this]
  simpa using hu
theorem one_eight (k x y u v : Int) (p q r : Bool) : ∀ z ∈ [Value.int .i64 k, .int .i64 x, .int .i64 y, .int .i64 u, .bool p, .int .i64 v, .bool q, .bool r], z.oneCell' = true := by
  intro z hz
  simp at hz
  rcases hz with rfl | rfl | rfl | rfl | rfl | rfl | rfl | rfl <;> rfl
section
variable {w wr w' : World} {B2 B7 : Nat} {X : List Kn.Cr} {L : Int} {ms : List Mv} {Y : List Kn.Cr} {N : Int} {ya : Option Addr} {yc : Nat} {v : Value}
theorem SmS.nw (h : SmS w wr B2 B7 X L ms Y N ya yc v) (hf : New wr w') : SmS w w' B2 B7 X L ms Y N ya yc v :=
  ⟨h.new.trans hf, hf.blk h.res fun x => x, hf.blk h.now fun x => x, New.crs hf h.crs, hf.owns h.own fun _ _ x => x, h.run, h.good, h.len, h.l2, h.l7, h.ne, h.gx⟩
theorem own_old {w : World} {base e z n : Nat} {v : Value} {xs : List Value} (h : w.ownsRow base e z v n xs) {k : Nat} (hk : v.ownBlock = some k) : k < w.heap.size := by
  rcases h.2 with ⟨rfl, _⟩ | ⟨g, cap, cur, rfl, hb, hg, _⟩
  · cases hk
  · cases hk; exact (Array.getElem?_eq_some_iff.1 hg).1
theorem SmS.push {w6 w9 : World} {o : Obj} {m : Mv} {Z : List Kn.Cr} {K : Int} {za : Option Addr} {zc nm : Nat} {v' : Value} (h : SmS w wr B2 B7 X L ms Y N ya yc v) (hN : New wr w6) (hz : CrsAt w6 za Z) (hf : ∀ ad, za = some ad → wr.heap.size ≤ ad.block) (hd : doM Y N m = .ok Z K) (hnm : nm = ms.length)
    (hown : w9.ownsRow w.heap.size 28 8 v' (nm + 1) (mvCells ms ++ m.cells)) (hg : (w6.alloc o).grownBy w9 v.ownBlock) :
    w9.heap[B7]? = some (.cells #[.slice ya Y.length yc, .int .i64 N] 24 (0, 0)) ∧ SmS w (set2 w9 B7 (.slice za Z.length zc) (.int .i64 K)) B2 B7 X L (ms ++ [m]) Z K za zc v' := by
  subst hnm
  have hF : Fr (fun k => v.ownBlock = some k) wr w9 := ((hN.alloc o).mono fun _ h => h.elim).grown hg fun k e => .inl e
  have hF6 : Fr (fun k => v.ownBlock = some k) w6 w9 := ((Fr.refl _ w6).alloc o).grown hg fun k e => .inl e
  have h7 := hF.blk h.now (blk_not_own h.now h.own (by decide))
  have h2 := hF.blk h.res (blk_not_own h.res h.own (by decide))
  have hS := set2_fr w9 B7 (.slice za Z.length zc) (.int .i64 K)
  have hc := hz.off2 (fun ad e hk => by have := hf ad e; have := own_old h.own hk; omega) hF6
  have hb7 := (Array.getElem?_eq_some_iff.1 h.now).1
  have hgd := doM_good h.good hd
  refine ⟨h7, ⟨?_, hS.blk h2 h.ne, set2_blk h7 _ _, hc.off2 (fun ad e hk => by have := hf ad e; omega) hS, ?_, runM_snoc h.run hd, hgd.1, ?_, h.l2, h.l7, h.ne, h.gx⟩⟩
  · exact (h.new.next hF fun i hi => .inr (own_lb h.own i hi)).next hS fun i hi => .inr (by rw [hi]; exact h.l7)
  · rw [mvCells_snoc, List.length_append, List.length_singleton]
    exact hS.owns hown fun k hk e => blk_not_own h7 hown (by decide) (e ▸ hk)
  · rw [List.length_append, List.length_singleton]; have := h.len; omega
end
theorem CrsAt.off1 {w w' : World} {B2 : Nat} {p q : Value} {a : Option Addr} {Y : List Kn.Cr} (h : CrsAt w a Y) (hR : w.heap[B2]? = some (.cells #[p, q] 24 (0, 0))) (hF : Fr (fun k => k = B2) w w') : CrsAt w' a Y := by
  rcases h with h0 | ⟨g, o, h1, h2⟩
  · exact .inl h0
  · refine .inr ⟨g, o, h1, fun i hi => hF.crAt (h2 i hi) ?_⟩
    have hc := (h2 i hi).p
    rintro rfl
    have := cell_in hR hc
    simp at this
    omega
def GaveSimple (X : List Kn.Cr) (L : Int) (w : World) (e : Ending) (w' : World) : Prop :=
  New w w' ∧ ((Good X L ∧ ∃ ms Y N a c v, e = .returned (.tuple #[.agg #[.slice a Y.length c, .int .i64 N], v, .int .i64 0]) ∧ CrsAt w' a Y ∧ w'.ownsRow w.heap.size 28 8 v ms.length (mvCells ms) ∧ runM X L ms = some (Y, N) ∧ Good Y N ∧ ms.length + Y.length ≤ X.length ∧ Stuck Y N) ∨
    (¬ Good X L ∧ e = .returned (.tuple #[.agg #[.slice none 0 0, .int .i64 0], .slice none 0 0, .int .i64 7])))
end Go.Proofs.YtgjmjbgicfkojaaGreat
