/- What comes of a move is planar and smaller: plain mathematics. -/
import Derived.Test.YtgjmjbgicfkojaaGreatN15
import Derived.Test.YtgjmjbgicfkojaaGreatMAll
/- What comes of a move is planar and smaller: plain mathematics. -/
namespace Go.Proofs.YtgjmjbgicfkojaaGreat
open Kn

def Good (X : List Cr) (L : Int) : Prop := mayB X L = true ∧ planarB X = true
theorem takeO_good {X Y : List Cr} {L N : Int} {gone : Nat → Bool} (hg : Good X L) (h1 : Ok (takeL X gone) ∧ (planarB X = true → planarB (takeL X gone) = true)) (h2 : (kept X.length gone).length < X.length) (h : takeO X L gone = .ok Y N) : Good Y N ∧ Y.length < X.length := by
  unfold takeO at h
  split at h
  · rename_i h16
    cases h
    have hok := mayB_ok hg.1
    have hL : 0 ≤ L := by
      have h3 := hg.1
      unfold mayB at h3
      simp only [Bool.and_eq_true, decide_eq_true_eq] at h3
      exact h3.1.1.1.2
    have hlen := takeL_len (X := X) gone
    refine ⟨⟨?_, h1.2 hg.2⟩, by omega⟩
    have h4 := (ok_iff _).2 h1.1
    unfold mayB
    simp only [Bool.and_eq_true, decide_eq_true_eq, Bool.not_eq_true', Bool.and_eq_false_iff, decide_eq_false_iff_not]
    refine ⟨⟨⟨⟨by omega, by omega⟩, h16⟩, ?_⟩, h4⟩
    by_cases c : (takeL X gone).length = 0
    · right
      have := hok.1.takeN_pos gone (by omega) (List.length_eq_zero_iff.1 c)
      omega
    · exact .inl c
  · cases h
theorem doO_ok {X Y : List Cr} {L N : Int} {o : Out} (h : doO X L o = .ok Y N) : o = .ok Y N := by
  unfold doO at h
  split at h
  · exact h
  · cases h
theorem face_two {X : List Cr} (hX : Ok X) {d e : Dt} (hf : [d, e] ∈ facesL X) : Kn.isArc X d.1 ∧ Kn.isArc X e.1 ∧ left X d = e ∧ left X e = d := by
  have hp := faces_perm hX; have hd : Kn.isArc X d.1 := mem_darts.1 (hp.mem_iff.1 (List.mem_flatten.2 ⟨_, hf, by simp⟩)); have he : Kn.isArc X e.1 := mem_darts.1 (hp.mem_iff.1 (List.mem_flatten.2 ⟨_, hf, by simp⟩)); have hnd : (facesL X).flatten.Nodup := hp.nodup_iff.2 (darts_nodup X)
  have hde : d ≠ e := by
    have := (List.pairwise_flatten.1 hnd).1 _ hf
    simp at this
    exact this
  have hm : [pk (head X d), pk (head X e)] ∈ (facesL X).map (List.map fun d => pk (head X d)) := List.mem_map.2 ⟨_, hf, rfl⟩; have key := hX.faces_is _ hm
  have inj : ∀ {a b : Dt}, Kn.isArc X a.1 → Kn.isArc X b.1 → pk (head X a) = pk (head X b) → a = b := fun ha hb h => hX.head_inj ha hb (pk_inj (hX.isPl_head ha).2 (hX.isPl_head hb).2 h)
  have orb1 : ∀ {x : Dt}, Kn.isArc X x.1 → Orb (fac X) (pk (head X x)) (pk (head X (left X x))) := fun {x} hx => ⟨1, hX.fac_head hx⟩
  have m1 : left X d = d ∨ left X d = e := by
    have := (key _ (by simp) _).2 (orb1 hd)
    rcases List.mem_cons.1 this with h | h
    · exact .inl (inj (hX.isArc_left hd) hd h)
    · exact .inr (inj (hX.isArc_left hd) he (List.mem_singleton.1 h))
  have m2 : left X e = d ∨ left X e = e := by
    have := (key _ (by simp) _).2 (orb1 he)
    rcases List.mem_cons.1 this with h | h
    · exact .inl (inj (hX.isArc_left he) hd h)
    · exact .inr (inj (hX.isArc_left he) he (List.mem_singleton.1 h))
  have m3 : left X d ≠ d := fun h => by
    have hfix : ∀ n, it (fac X) n (pk (head X d)) = pk (head X d) := fun n => by
      induction n with
      | zero => rfl
      | succ n ih =>
        have h2 := hX.fac_head hd; rw [h] at h2
        first
          | (show fac X (it (fac X) n _) = _; rw [ih, h2])
          | (show it (fac X) n (fac X _) = _; rw [h2, ih])
    have := (key (pk (head X d)) (by simp) (pk (head X e))).1 (by simp); obtain ⟨n, hn⟩ := this; rw [hfix n] at hn
    exact hde (inj hd he hn)
  have h1 := m1.resolve_left m3
  refine ⟨hd, he, h1, m2.resolve_right fun h => ?_⟩
  have a1 := hX.fac_head hd; have a2 := hX.fac_head he; rw [h1] at a1; rw [h] at a2; have := hX.fac_pm.inj _ _ (a1.trans a2.symm)
  exact hde (inj hd he this)
theorem tail_left {X : List Cr} (hX : Ok X) {d : Dt} (hd : Kn.isArc X d.1) : head X ((left X d).1, !(left X d).2) = ((head X d).1, ((head X d).2 + 3) % 4) := by
  have hq : isPl X ((head X d).1, ((head X d).2 + 3) % 4) := isPl_turn (hX.isPl_head hd) 3; have := hX.end_eq hq
  show endP X (!!(cm X ((head X d).1, ((head X d).2 + 3) % 4))) (arcN X ((head X d).1, ((head X d).2 + 3) % 4)) = _
  rw [Bool.not_not]; exact this
theorem both_comm (x y : Nat) : both x y = both y x := by funext d; simp [Bool.or_comm]
theorem unO_good {X Y : List Cr} {L N : Int} {c : Nat} (hg : Good X L) (h : unO X L c = .ok Y N) : Good Y N ∧ Y.length < X.length := by
  unfold unO at h
  split at h
  · rename_i hc
    split at h
    · rename_i hcu
      have hcl : c < X.length := by
        unfold isCr at hc
        simp only [Bool.and_eq_true, decide_eq_true_eq] at hc
        omega
      simp only [Int.toNat_natCast] at h hcu
      unfold curlB at hcu
      rw [List.any_eq_true] at hcu; obtain ⟨s, hs, hcs⟩ := hcu
      refine takeO_good hg ((mayB_ok hg.1).1.take_kink hcl (List.mem_range.1 hs) (of_decide_eq_true hcs)) ?_ h
      have := kept_only (n := X.length) hcl
      omega
    · cases h
  · cases h
theorem pullO_good {X Y : List Cr} {L N : Int} {a b : Nat} (hg : Good X L) (h : pullO X L a b = .ok Y N) : Good Y N ∧ Y.length < X.length := by
  unfold pullO at h
  split at h
  · rename_i hc
    split at h
    · rename_i hf
      simp only [Bool.and_eq_true, decide_eq_true_eq] at hc; obtain ⟨⟨ha, hb⟩, hab⟩ := hc
      have hal : a < X.length := by unfold isCr at ha; simp only [Bool.and_eq_true, decide_eq_true_eq] at ha; omega
      have hbl : b < X.length := by unfold isCr at hb; simp only [Bool.and_eq_true, decide_eq_true_eq] at hb; omega
      have hne : a ≠ b := fun e => hab (by rw [e])
      simp only [Int.toNat_natCast] at h; have hX := (mayB_ok hg.1).1; rw [List.any_eq_true] at hf; obtain ⟨f, hf1, hf2⟩ := hf
      match f, hf1, hf2 with
      | [d, e], hf1, hf2 =>
        obtain ⟨hd, he, h1, h2⟩ := face_two hX hf1; obtain ⟨b1, b2⟩ := hX.bigon_of hd h1 h2; have t1 := tail_left hX hd; have t2 := tail_left hX he; rw [h1] at t1; rw [h2] at t2
        unfold bigF at hf2
        simp only [t1, t2, Bool.and_eq_true, Bool.or_eq_true, decide_eq_true_eq] at hf2; have hxl : (head X e).1 < X.length := (hX.isPl_head he).1; have hyl : (head X d).1 < X.length := (hX.isPl_head hd).1; have hs4 : ((head X e).2 + 3) % 4 < 4 := Nat.mod_lt _ (by omega)
        have hxy : (head X e).1 ≠ (head X d).1 := by omega
        have oB : other X ((head X e).1, (((head X e).2 + 3) % 4 + 1) % 4) = ((head X d).1, ((head X d).2 + 3) % 4) := by
          have h4 := (hX.isPl_head he).2; rw [show (((head X e).2 + 3) % 4 + 1) % 4 = (head X e).2 by omega]
          exact b2
        have hk := hX.take_bigon hxl hyl hxy hs4 (hX.isPl_head hd).2 b1 oB
        have hgone : both a b = both (head X e).1 (head X d).1 := by
          rcases hf2.1 with h | h
          · rw [show (head X e).1 = a by omega, show (head X d).1 = b by omega]
          · rw [show (head X e).1 = b by omega, show (head X d).1 = a by omega, both_comm]
        rw [← hgone] at hk
        refine takeO_good hg hk ?_ h
        have := kept_both (n := X.length) hal hbl hne
        omega
    · cases h
  · cases h
theorem doM_good {X Y : List Cr} {L N : Int} {m : Mv} (hg : Good X L) (h : doM X L m = .ok Y N) : Good Y N ∧ Y.length < X.length := by
  cases m with
  | un c => exact unO_good hg (doO_ok h)
  | pu a b => exact pullO_good hg (doO_ok h)
def runM : List Cr → Int → List Mv → Option (List Cr × Int)
  | X, L, [] => some (X, L)
  | X, L, m :: ms => match doM X L m with
    | .ok Y N => runM Y N ms
    | .no _ => none
end Go.Proofs.YtgjmjbgicfkojaaGreat

/- What curls, pushes and slides make is planar, and goes back: plain mathematics. -/
namespace Go.Proofs.YtgjmjbgicfkojaaGreat
open Kn

theorem arcB_iff {X : List Cr} {a : Int} : arcB X a = true ↔ isArc X a.toNat ∧ 0 ≤ a := by
  unfold arcB isArc
  simp only [Bool.and_eq_true, decide_eq_true_eq]
  omega
def loopB (L a : Int) : Bool := decide (a = 0) && decide (0 < L)
def byB (b : Int) : Bool := decide (0 ≤ b) && decide (b ≤ 3)
def curlD (X : List Cr) (L a b : Int) : List Cr := if loopB L a then curlP X (decide (2 ≤ b)) (decide (b % 2 = 1)) else curlA X a.toNat (decide (2 ≤ b)) (decide (b % 2 = 1))
def curlN (L a : Int) : Int := if loopB L a then L - 1 else L
def curlO (X : List Cr) (L a b : Int) : Out :=
  if (arcB X a || loopB L a) && byB b then (if X.length < 16 then .ok (curlD X L a b) (curlN L a) else .no 2) else .no 3
def faceB (X : List Cr) (u v : Dt) : Bool := (facesL X).any fun f => decide (u ∈ f) && decide (v ∈ f)
def pushO (X : List Cr) (L u v : Int) (ub vb ov : Bool) : Out :=
  if arcB X u && arcB X v then (if decide (u ≠ v) && faceB X (u.toNat, ub) (v.toNat, vb) then (if X.length + 2 ≤ 16 then .ok (pushL X (u.toNat, ub) (v.toNat, vb) ov) L else .no 2) else .no 8) else .no 3
def faceAt (X : List Cr) (i : Int) : List Dt := (facesL X).getD i.toNat []
def slideO (X : List Cr) (L i : Int) : Out :=
  if decide (0 ≤ i) && decide (i < ((facesL X).length : Int)) then (if slidesB X (faceAt X i) then .ok (slideL X ((faceAt X i).map (·.1))) L else .no 8) else .no 3
theorem Good.b {X : List Cr} {L : Int} (h : Good X L) : Ok X ∧ X.length ≤ 16 ∧ 0 ≤ L ∧ L ≤ 16 := by
  have h1 := mayB_ok h.1; have h2 := h.1
  unfold mayB at h2
  simp only [Bool.and_eq_true, decide_eq_true_eq] at h2
  exact ⟨h1.1, h1.2, h2.1.1.1.2, h2.1.1.2⟩
theorem good_mk {X : List Cr} {L : Int} (h : Ok X) (hl : X.length ≤ 16) (hn : 0 < X.length) (l1 : 0 ≤ L) (l2 : L ≤ 16) (hp : planarB X = true) : Good X L := by
  refine ⟨?_, hp⟩
  have h4 := (ok_iff _).2 h
  unfold mayB
  simp only [Bool.and_eq_true, decide_eq_true_eq, Bool.not_eq_true', Bool.and_eq_false_iff, decide_eq_false_iff_not]
  exact ⟨⟨⟨⟨by omega, by omega⟩, by omega⟩, .inl (by omega)⟩, h4⟩
theorem curlB_of {Y : List Cr} {n : Nat} (h : ∃ s, s < 4 ∧ at_ Y (n, s) = at_ Y (n, (s + 1) % 4)) : curlB Y n = true := by
  obtain ⟨s, hs, e⟩ := h
  unfold curlB
  rw [List.any_eq_true]
  refine ⟨s, List.mem_range.2 hs, ?_⟩
  unfold arcN
  rw [e]; simp
theorem isCr_of {Y : List Cr} {n : Nat} (h : n < Y.length) : isCr Y (n : Nat) = true := by
  unfold isCr; simp; omega
theorem curlO_back {X Y : List Cr} {L N a b : Int} (hg : Good X L) (h : curlO X L a b = .ok Y N) : Good Y N ∧ unO Y N (X.length : Nat) = .ok X L := by
  obtain ⟨hX, hl, l1, l2⟩ := hg.b
  unfold curlO at h
  split at h
  · rename_i hc
    split at h
    · rename_i h16
      injection h with e1 e2
      subst e1 e2; rw [Bool.and_eq_true, Bool.or_eq_true] at hc
      unfold curlD curlN
      by_cases lp : loopB L a = true
      · rw [if_pos lp, if_pos lp]
        unfold loopB at lp
        simp only [Bool.and_eq_true, decide_eq_true_eq] at lp; have hO := curlP_of (X := X) (decide (2 ≤ b)) (decide (b % 2 = 1)); generalize curlP X (decide (2 ≤ b)) (decide (b % 2 = 1)) = Y at hO ⊢; obtain ⟨t1, t2⟩ := hO.take hX
        refine ⟨good_mk (hO.ok hX) (by rw [hO.len]; omega) (by rw [hO.len]; omega) (by omega) (by omega) (hO.planar hX hg.2), ?_⟩
        unfold unO
        rw [if_pos (isCr_of (by rw [hO.len]; omega)), Int.toNat_natCast, if_pos (curlB_of hO.kink)]
        unfold takeO
        rw [t1, t2, if_pos (by omega), show L - 1 + ((1 : Nat) : Int) = L by omega]
      · rw [if_neg lp, if_neg lp]
        have ha := arcB_iff.1 (hc.1.resolve_right lp); have hO := curlA_of hX ha.1 (decide (2 ≤ b)) (decide (b % 2 = 1)); generalize curlA X a.toNat (decide (2 ≤ b)) (decide (b % 2 = 1)) = Y at hO ⊢; obtain ⟨t1, t2⟩ := hO.take hX ha.1
        refine ⟨good_mk (hO.ok hX ha.1) (by rw [hO.len]; omega) (by rw [hO.len]; omega) (by omega) (by omega) (hO.planar hX ha.1 hg.2), ?_⟩
        unfold unO
        rw [if_pos (isCr_of (by rw [hO.len]; omega)), Int.toNat_natCast, if_pos (curlB_of hO.kink)]
        unfold takeO
        rw [t1, t2, if_pos (by omega), show L + ((0 : Nat) : Int) = L by omega]
    · cases h
  · cases h
theorem pushO_back {X Y : List Cr} {L N u v : Int} {ub vb ov : Bool} (hg : Good X L) (h : pushO X L u v ub vb ov = .ok Y N) : Good Y N ∧ pullO Y N (X.length : Nat) ((X.length + 1 : Nat) : Int) = .ok X L := by
  obtain ⟨hX, hl, l1, l2⟩ := hg.b
  unfold pushO at h
  split at h
  · rename_i hc
    split at h
    · rename_i hf
      split at h
      · rename_i h16
        injection h with e1 e2
        subst e1 e2; rw [Bool.and_eq_true] at hc; have hu := arcB_iff.1 hc.1; have hv := arcB_iff.1 hc.2; rw [Bool.and_eq_true, decide_eq_true_eq] at hf
        have hne : u.toNat ≠ v.toNat := by omega
        have hO := pushL_of (u := (u.toNat, ub)) (v := (v.toNat, vb)) hX hu.1 hv.1 hne ov; have hpar := push_par (u.toNat, ub) (v.toNat, vb) ov; obtain ⟨f, hf1, hf2⟩ := List.any_eq_true.1 hf.2; simp only [Bool.and_eq_true, decide_eq_true_eq] at hf2; have ho := (hX.face_is hf1 hf2.1 hv.1).1 hf2.2; generalize pushL X (u.toNat, ub) (v.toNat, vb) ov = Y at hO ⊢; obtain ⟨t1, t2⟩ := hO.take; obtain ⟨g, hg1, d, e, rfl, hd, hov⟩ := hO.bigon hpar; have hlen := hO.len
        refine ⟨good_mk hO.ok (by omega) (by omega) l1 l2 (hO.planar ho hg.2), ?_⟩
        unfold pullO
        rw [isCr_of (by omega), isCr_of (by omega), Int.toNat_natCast, Int.toNat_natCast]
        have hn : decide (((X.length : Nat) : Int) ≠ ((X.length + 1 : Nat) : Int)) = true := by simp; omega
        rw [hn, if_pos (show (true && true && true) = true from rfl), if_pos]
        · unfold takeO
          rw [t1, t2, if_pos (by omega), show L + ((0 : Nat) : Int) = L by omega]
        · rw [List.any_eq_true]
          refine ⟨_, hg1, ?_⟩
          unfold bigF
          simp only
          rw [Bool.and_eq_true]
          refine ⟨?_, hov⟩
          rcases hd with ⟨d1, d2⟩ | ⟨d1, d2⟩
          · rw [d1, d2]; simp
          · rw [d1, d2]; simp
      · cases h
    · cases h
  · cases h
theorem slideO_back {X Y : List Cr} {L N i : Int} (hg : Good X L) (h : slideO X L i = .ok Y N) : Good Y N ∧ Y.length = X.length ∧ N = L ∧ 0 ≤ i ∧ i < ((facesL X).length : Int) ∧
    ∃ k, k < (facesL Y).length ∧ slideO Y N (k : Nat) = .ok X L ∧ ((facesL Y).getD k []).length = 3 ∧ ∀ d ∈ (facesL Y).getD k [], ∃ e ∈ faceAt X i, e.1 = d.1 := by
  obtain ⟨hX, hl, l1, l2⟩ := hg.b
  unfold slideO at h
  split at h
  · rename_i hc
    split at h
    · rename_i hs
      injection h with e1 e2
      subst e1 e2; simp only [Bool.and_eq_true, decide_eq_true_eq] at hc
      have hi : i.toNat < (facesL X).length := by omega
      have hf : faceAt X i ∈ facesL X := by
        unfold faceAt
        rw [List.getD_eq_getElem?_getD, List.getElem?_eq_getElem hi]
        exact List.getElem_mem hi
      obtain ⟨k1, k2, f', hf', hs', hd, hb⟩ := slide_back hX hf hs; have hlen := slideL_len X ((faceAt X i).map (·.1)); generalize slideL X ((faceAt X i).map (·.1)) = Y at k1 k2 hf' hs' hb hlen ⊢
      have hpos : 0 < X.length := by
        obtain ⟨d, hd'⟩ := List.exists_mem_of_ne_nil _ (faces_ne X _ hf); have := hX.face_arc hf hd'; have := this.1; have := (hX.face_arc hf hd').2
        unfold nArcs at this
        omega
      obtain ⟨k, hk, e⟩ := List.mem_iff_getElem.1 hf'
      have eg : (facesL Y).getD k [] = f' := by rw [List.getD_eq_getElem?_getD, List.getElem?_eq_getElem hk]; exact e
      refine ⟨good_mk k1 (by omega) (by omega) l1 l2 (k2 hg.2), hlen, rfl, hc.1, hc.2, k, hk, ?_, ?_, ?_⟩
      · unfold slideO faceAt
        rw [Int.toNat_natCast, eg, if_pos (by simp; omega), if_pos hs', hb]
      · rw [eg]
        unfold slidesB at hs'
        simp only [Bool.and_eq_true, decide_eq_true_eq] at hs'
        exact hs'.1.1.1
      · rw [eg]; exact hd
    · cases h
  · cases h
end Go.Proofs.YtgjmjbgicfkojaaGreat

/- Walks: words for what a move leaves. -/
namespace Go.Proofs.YtgjmjbgicfkojaaGreat
open Go.RowKit

def GaveP (D b s : Nat) (fv : Value) (o : Out) (w : World) (e : Ending) (w' : World) : Prop :=
  Fr (fun k => D ≤ k) w w' ∧ match o with
    | .no x => e = .panicked (wrongP x)
    | .ok Y L => e = .returned (.tuple #[]) ∧ w'.heap[b]? = some (.cells #[.pointer (some ⟨s, 0, none⟩), fv] 64 (0, 0)) ∧ ∃ a c, w'.cell? ⟨s, 0, none⟩ = some (.slice a Y.length c) ∧ w'.cell? ⟨s, 1, none⟩ = some (.int .i64 L) ∧ CrsAt w' a Y ∧ ∀ ad, a = some ad → D ≤ ad.block
theorem BW.gave {D : Nat} {w w' : World} {b s : Nat} {fv v : Value} {bi bo : Nat} {X Y : List Kn.Cr} {L : Int} (h : BW D w' b s fv v bi bo X Y L) (hF : Fr (fun k => D ≤ k) w w') : GaveP D b s fv (.ok Y L) w (.returned (.tuple #[])) w' := by
  obtain ⟨_, s0, s1, _⟩ := h.box; obtain ⟨a, c, rfl, hc⟩ := CrsAt.of_owns h.own
  exact ⟨hF, rfl, h.blk, a, c, s0, s1, hc, fun ad e => own_lb h.own ad.block (by rw [e]; rfl)⟩
end Go.Proofs.YtgjmjbgicfkojaaGreat
