/- Walks: walk (a strand, from where it comes in on). -/
import Derived.Test.YtcfpdeeipbekfaaT6
namespace Go.Proofs.Ytcfpdeeipbekfaa
open Go.RowKit Go.Shelf

/- the map of places -/
structure PmD (D : DataW Unit) (f : Kn.Pl → Option Nat) : Prop where
  isMap : Maps.IsMap D
  val : ∀ p k v, keyOf Try.prog 63 (plV p) = some k → f p = some v → ∀ zd, D.atKey k zd = .lit (.int .i64 (v : Nat))
def PmMap (W : World) (mp n : Nat) (f : Kn.Pl → Option Nat) : Prop := ∃ D : DataW Unit, W.ownsMap Try.prog 63 (plainElem Try.prog 3) mp n D ∧ PmD D f
theorem PmD.empty : PmD (.map []) (fun _ => none) := ⟨Maps.isMap_empty, (fun _ _ _ _ h => by cases h)⟩
def putP (f : Kn.Pl → Option Nat) (p : Kn.Pl) (v : Nat) (q : Kn.Pl) : Option Nat := if q = p then some v else f q
theorem PmD.put {D : DataW Unit} {f : Kn.Pl → Option Nat} (h : PmD D f) {p : Kn.Pl} {v : Nat} {kl : Lit} (hk : keyOf Try.prog 63 (plV p) = some kl) : PmD (D.put kl (.lit (.int .i64 (v : Nat)))) (putP f p v) := by
  have hkl := Try.law63.key hk
  have ne : ∀ q k, keyOf Try.prog 63 (plV q) = some k → q ≠ p → k ≠ kl := fun q k hq hn e => hn (plV_inj (Try.law63.inj (e ▸ hq) hk))
  refine ⟨h.isMap.put _ _, fun q k u hq hu zd => ?_⟩
  unfold putP at hu
  by_cases c : q = p
  · subst c
    rw [hk] at hq; cases hq
    rw [if_pos rfl] at hu; cases hu
    rw [Maps.atKey_put_same h.isMap hkl]
  · rw [if_neg c] at hu
    rw [Maps.atKey_put_other (ne q k hq c), h.val q k u hq hu]
theorem PmMap.fr {S : Nat → Prop} {W W' : World} {mb n : Nat} {f : Kn.Pl → Option Nat} (h : PmMap W mb n f) (hf : Fr S W W') (hs : ¬ S mb) : PmMap W' mb n f := by
  obtain ⟨D, ⟨es, ck, hb, r⟩, h1⟩ := h
  exact ⟨D, ⟨es, ck, (hf.block mb (Array.getElem?_eq_some_iff.1 hb).1 hs).trans hb, r⟩, h1⟩
theorem PmMap.block {W : World} {mb n : Nat} {f : Kn.Pl → Option Nat} (h : PmMap W mb n f) : ∃ es ck, W.heap[mb]? = some (.map es ck) := by
  obtain ⟨D, ⟨es, ck, hb, _⟩, _⟩ := h
  exact ⟨es, ck, hb⟩
theorem PmMap.look {W : World} {mb n : Nat} {f : Kn.Pl → Option Nat} (h : PmMap W mb n f) {p : Kn.Pl} {v : Nat} (hp : isCo p) (hv : f p = some v) : (Instr.lookup 75 (.map (some mb)) (plV p) false).run Try.prog W = .ok (.int .i64 (v : Nat)) W := by
  obtain ⟨D, hown, hd⟩ := h
  obtain ⟨kl, hk⟩ := plKey hp
  obtain ⟨c, hrun, hat, _⟩ := hown.lookup_int Try.law63 Try.ul75 Try.underlying3 (Try.zero3' _) hk
  rw [hd.val p kl v hk hv] at hat
  have e := (Lit.int.inj (DataW.lit.inj hat)).2
  rw [e]; exact hrun
def innF (W : Kn.Wl) (j : Nat) : Value := .int .i64 (W.inn.getD j 0)
/- a walker in memory -/
structure WkAt (B0 : Nat) (w : World) (wb b mt nn mp np ab ib n : Nat) (v : Value) (t : Kn.Tg) (W : Kn.Wl) : Prop where
  blk : w.heap[wb]? = some (.cells #[.pointer (some ⟨b, 0, none⟩), .map (some mp), .slice (some ⟨ab, 0, none⟩) n n, .slice (some ⟨ib, 0, none⟩) n n] 78 (0, 0))
  tg : TgAt B0 w b mt nn v t
  pm : PmMap w mp np (Kn.plOf t)
  arcs : w.rowIs ab 71 (4 * n) (numFn fun j => W.arcs.getD j 0)
  inn : w.rowIs ib 72 (2 * n) (innF W)
  la : W.arcs.length = 4 * n
  li : W.inn.length = 2 * n
  hn : n = t.many
section
variable {B0 wb b mt nn mp np ab ib n : Nat} {w w' : World} {v : Value} {t : Kn.Tg} {W : Kn.Wl}
theorem WkAt.new (h : WkAt B0 w wb b mt nn mp np ab ib n v t W) (hf : New w w') : WkAt B0 w' wb b mt nn mp np ab ib n v t W :=
  ⟨hf.blk h.blk fun x => x, h.tg.new hf, h.pm.fr hf fun x => x, hf.row h.arcs fun x => x, hf.row h.inn fun x => x, h.la, h.li, h.hn⟩
theorem WkAt.ne (h : WkAt B0 w wb b mt nn mp np ab ib n v t W) : (wb ≠ ab ∧ wb ≠ ib) ∧ (b ≠ ab ∧ b ≠ ib) ∧ (mt ≠ ab ∧ mt ≠ ib) ∧ (mp ≠ ab ∧ mp ≠ ib) ∧ ab ≠ ib := by
  have hm : ∀ {m : Nat} {es ck}, w.heap[m]? = some (.map es ck) → m ≠ ab ∧ m ≠ ib := fun hb => by
    refine ⟨fun e => ?_, fun e => ?_⟩
    · obtain ⟨cs, hc, _⟩ := h.arcs
      subst e; rw [hb] at hc; cases hc
    · obtain ⟨cs, hc, _⟩ := h.inn
      subst e; rw [hb] at hc; cases hc
  obtain ⟨e1, c1, h1⟩ := h.tg.tie.block
  obtain ⟨e2, c2, h2⟩ := h.pm.block
  exact ⟨⟨blk_ne h.blk h.arcs (by decide), blk_ne h.blk h.inn (by decide)⟩, ⟨rowIs_ne h.tg.row h.arcs (by decide), rowIs_ne h.tg.row h.inn (by decide)⟩, hm h1, hm h2, rowIs_ne h.arcs h.inn (by decide)⟩
theorem WkAt.own_ne (h : WkAt B0 w wb b mt nn mp np ab ib n v t W) : ∀ k, v.ownBlock = some k → ¬ k = ib := fun k hk => Ytcfpdeeipbekfaa.own_ne h.tg.own h.inn (by decide) k hk
theorem getD_set {α : Type} (l : List α) (i j : Nat) (x d : α) (hi : i < l.length) : (l.set i x).getD j d = if j = i then x else l.getD j d := by
  rw [List.getD_eq_getElem?_getD, List.getD_eq_getElem?_getD, List.getElem?_set]
  by_cases c : i = j
  · subst c; rw [if_pos rfl, if_pos rfl, if_pos hi]; rfl
  · rw [if_neg c, if_neg fun e => c e.symm]
/- where a strand comes in, stored -/
theorem WkAt.setI (h : WkAt B0 w wb b mt nn mp np ab ib n v t W) {k : Nat} (hk : k < 2 * n) (x : Int) : WkAt B0 (w.setCell ⟨ib, k, none⟩ (.int .i64 x)) wb b mt nn mp np ab ib n v t ⟨W.arcs, W.inn.set k x⟩ := by
  obtain ⟨⟨_, a2⟩, ⟨_, b2⟩, ⟨_, c2⟩, ⟨_, d2⟩, e⟩ := h.ne
  have hF : Fr (fun k => k = ib) w (w.setCell ⟨ib, k, none⟩ (.int .i64 x)) := (Fr.refl (fun k => k = ib) w).setCell (a := ⟨ib, k, none⟩) (.inl rfl) _
  refine ⟨hF.blk h.blk a2, ⟨hF.row h.tg.row b2, hF.owns h.tg.own h.own_ne, h.tg.tie.fr hF c2, h.tg.len, h.tg.plen, h.tg.lb, h.tg.lm⟩, h.pm.fr hF d2, hF.row h.arcs e, rowIs_congr (h.inn.set k _) fun j hj => ?_, h.la, by simp [h.li], h.hn⟩
  unfold innF
  simp only
  rw [getD_set _ _ _ _ _ (by rw [h.li]; exact hk)]
  split <;> rfl
end
/- an arc stored -/
theorem WkAt.setA {B0 wb b mt nn mp np ab ib n : Nat} {w : World} {v : Value} {t : Kn.Tg} {W : Kn.Wl} (h : WkAt B0 w wb b mt nn mp np ab ib n v t W) (hv : ∀ k, v.ownBlock = some k → ¬ k = ab) {k : Nat} (hk : k < 4 * n) (x : Nat) : WkAt B0 (w.setCell ⟨ab, k, none⟩ (.int .i64 (x : Nat))) wb b mt nn mp np ab ib n v t ⟨W.arcs.set k x, W.inn⟩ := by
  obtain ⟨⟨a2, _⟩, ⟨b2, _⟩, ⟨c2, _⟩, ⟨d2, _⟩, e⟩ := h.ne
  have hF : Fr (fun k => k = ab) w (w.setCell ⟨ab, k, none⟩ (.int .i64 (x : Nat))) := (Fr.refl (fun k => k = ab) w).setCell (a := ⟨ab, k, none⟩) (.inl rfl) _
  refine ⟨hF.blk h.blk a2, ⟨hF.row h.tg.row b2, hF.owns h.tg.own hv, h.tg.tie.fr hF c2, h.tg.len, h.tg.plen, h.tg.lb, h.tg.lm⟩, h.pm.fr hF d2, rowIs_congr (h.arcs.set k _) fun j hj => ?_, hF.row h.inn e.symm, by simp [h.la], h.li, h.hn⟩
  show Value.int .i64 (((W.arcs.set k x).getD j 0 : Nat) : Int) = if j = k then _ else Value.int .i64 ((W.arcs.getD j 0 : Nat) : Int)
  rw [getD_set _ _ _ _ _ (by rw [h.la]; exact hk)]
  split <;> rfl
theorem walk_step {t : Kn.Tg} {f c s arc : Nat} {W : Kn.Wl} {R : Nat × Kn.Wl} (h : Kn.walkF t f c s arc W = some R) : c < t.many ∧ s < 4 ∧ ((W.inn.getD (c * 2 + s % 2) 0 < 0 ∧ ∃ f' n s', f = f' + 1 ∧ t.ties (c, t.places.getD (c * 4 + (s + 2) % 4) 9) = some n ∧ t.places.getD (c * 4 + (s + 2) % 4) 9 < 4 ∧ isCo n ∧ Kn.plOf t n = some s' ∧ Kn.walkF t f' n.1 s' (arc + 1) (Kn.stepW W c s arc) = some R) ∨ (¬ W.inn.getD (c * 2 + s % 2) 0 < 0 ∧ R = (arc, W))) := by
  cases f with
  | zero => cases h
  | succ f =>
    rw [Kn.walkF] at h
    split at h
    · cases h
    · rename_i hcs
      refine ⟨by omega, by omega, ?_⟩
      split at h
      · rename_i hi
        refine .inl ⟨hi, f, ?_⟩
        split at h
        · cases h
        · rename_i n s' hn
          refine ⟨n, s', rfl, ?_⟩
          unfold Kn.nextP at hn
          split at hn
          · cases hn
          · rename_i n' hn'
            split at hn
            · cases hn
            · rename_i hg
              split at hn
              · cases hn
              · rename_i s'' hs
                simp only [Option.some.injEq, Prod.mk.injEq] at hn
                obtain ⟨rfl, rfl⟩ := hn
                exact ⟨hn', by omega, ⟨by omega, by omega⟩, hs, h⟩
      · rename_i hi
        exact .inr ⟨hi, by simpa using h.symm⟩
/- a place of a crossing -/
theorem WkAt.place {B0 wb b mt nn mp np ab ib n : Nat} {w : World} {v : Value} {t : Kn.Tg} {W : Kn.Wl} (h : WkAt B0 w wb b mt nn mp np ab ib n v t W) (h0 : 0 < n) : ∃ g c, v = .slice (some ⟨g, 0, none⟩) n c ∧ ∀ k, k < 4 * n → w.cell? ⟨g, k, none⟩ = some (.int .i64 (t.places.getD k 9 : Nat)) := by
  have ho := h.tg.own
  rw [← h.hn] at ho
  have hl := h.tg.plen
  rw [← h.hn] at hl
  rcases ho.2 with ⟨rfl, h1⟩ | ⟨g, cap, cur, rfl, _⟩
  · omega
  · refine ⟨g, cap, rfl, fun k hk => ?_⟩
    have := World.ownsRow.cells ho (g := g) rfl k (.int .i64 (t.places.getD k 9 : Nat)) (by
      unfold nums
      rw [List.getElem?_map, List.getD_eq_getElem?_getD, List.getElem?_eq_getElem (by omega)]; rfl)
    rwa [addr_add, Nat.zero_add] at this
set_option maxRecDepth 100000 in
theorem sw7 {B0 wb b mt nn mp np ab ib n c o at4 g cp n1 n2 : Nat} {w : World} {t : Kn.Tg} {W : Kn.Wl} (h : WkAt B0 w wb b mt nn mp np ab ib n (.slice (some ⟨g, 0, none⟩) n cp) t W) (h0 : c * 4 + o < 4 * n) (hc : isCo (c, at4)) (ha : at4 = t.places.getD (c * 4 + o) 9) (ht : t.ties (c, at4) = some (n1, n2)) :
    w.cell? ⟨wb, 0, none⟩ = some (.pointer (some ⟨b, 0, none⟩)) ∧ w.cell? ⟨b, 16, none⟩ = some (.slice (some ⟨g, 0, none⟩) n cp) ∧ w.cell? ⟨b, 17, none⟩ = some (.map (some mt)) ∧ w.cell? ⟨g, c * 4 + o, none⟩ = some (.int .i64 (at4 : Nat)) ∧
      (Instr.lookup 67 (.map (some mt)) (.agg #[.int .i64 (c : Nat), .int .i64 (at4 : Nat)]) false).run Try.prog w = .ok (.agg #[.int .i64 (n1 : Nat), .int .i64 (n2 : Nat)]) w := by
  obtain ⟨g', c', e, hp⟩ := h.place (by omega)
  have eg : g' = g := by injection e with e1; injection e1 with e2; injection e2 with e3; exact e3.symm
  subst eg
  refine ⟨(four_c h.blk).1, h.tg.rest.1, h.tg.rest.2.1, ?_, h.tg.tie.look hc ht⟩
  rw [ha]; exact hp _ h0
set_option maxRecDepth 100000 in
theorem sw8 {B0 wb b mt nn mp np ab ib n n1 n2 s' B : Nat} {w : World} {v : Value} {t : Kn.Tg} {W : Kn.Wl} (h : WkAt B0 w wb b mt nn mp np ab ib n v t W) (hc : isCo (n1, n2)) (hp : Kn.plOf t (n1, n2) = some s') (hb : w.heap[B]? = some (.cells #[.int .i64 (n1 : Nat), .int .i64 (n2 : Nat)] 63 (0, 0))) :
    w.cell? ⟨B, 0, none⟩ = some (.int .i64 (n1 : Nat)) ∧ w.cell? ⟨B, 1, none⟩ = some (.int .i64 (n2 : Nat)) ∧ w.cell? ⟨wb, 1, none⟩ = some (.map (some mp)) ∧
      (Instr.lookup 75 (.map (some mp)) (.agg #[.int .i64 (n1 : Nat), .int .i64 (n2 : Nat)]) false).run Try.prog w = .ok (.int .i64 (s' : Nat)) w :=
  ⟨(two_c hb).1, (two_c hb).2, (four_c h.blk).2.1, h.pm.look hc hp⟩
set_option maxRecDepth 100000 in
set_option maxHeartbeats 8000000 in
theorem walk_any (B0 wb b mt nn mp np ab ib n c0 s0 arc0 F A : Nat) (v : Value) (t : Kn.Tg) (W0 : Kn.Wl) (w : World) (h : WkAt B0 w wb b mt nn mp np ab ib n v t W0) (hv : ∀ k, v.ownBlock = some k → ¬ k = ab) (h0 : 0 < n) (h16 : n ≤ 16) (R : Nat × Kn.Wl) (hr : Kn.walkF t F c0 s0 arc0 W0 = some R) (hA : arc0 + F ≤ A) (hA1 : A ≤ 100000) :
    Calls Try.prog 40 #[.pointer (some ⟨wb, 0, none⟩), .int .i64 (c0 : Nat), .int .i64 (s0 : Nat), .int .i64 (arc0 : Nat)] w fun e w' => e = .returned (.int .i64 (R.1 : Nat)) ∧ WkAt B0 w' wb b mt nn mp np ab ib n v t R.2 ∧ R.1 ≤ A ∧ Fr (fun k => k = ab ∨ k = ib) w w' := by
  have H := Lib.hid h
  have HR := Lib.hid hr
  have HV := Lib.hid hv
  clear h hr hv
  go_enter Try.func40, Try.ntmps40
  go_wp2
  go_loopg [1, 2, 3] F (fun f cv sv av wr => ∃ (c s arc : Nat) (W : Kn.Wl), cv = .int .i64 c ∧ sv = .int .i64 s ∧ av = .int .i64 arc ∧ arc + f ≤ A ∧ Hid (WkAt B0 wr wb b mt nn mp np ab ib n v t W) ∧ Hid (Kn.walkF t f c s arc W = some R) ∧ Hid (Fr (fun k => k = ab ∨ k = ib) w wr))
  case atStart => exact ⟨c0, s0, arc0, W0, rfl, rfl, rfl, hA, H, HR, Lib.hid (Fr.refl _ _)⟩
  case round =>
    obtain ⟨c, s, arc, W, rfl, rfl, rfl, hAf, HW, HF, HFr⟩ := hrel
    obtain ⟨hcm, hs4, hcase⟩ := walk_step HF.out
    rw [← HW.out.hn] at hcm
    obtain ⟨q, HQ⟩ : ∃ z, Hid (z = s % 2) := ⟨_, Lib.hid rfl⟩
    obtain ⟨o, HO⟩ : ∃ z, Hid (z = (s + 2) % 4) := ⟨_, Lib.hid rfl⟩
    have hq : q < 2 := by rw [HQ.out]; omega
    have ho : o < 4 := by rw [HO.out]; omega
    have eq2 : (s : Int).tmod 2 = (q : Nat) := by rw [Int.tmod_eq_emod_of_nonneg (by omega), HQ.out]; omega
    have eo4 : ((s : Int) + 2).tmod 4 = (o : Nat) := by rw [Int.tmod_eq_emod_of_nonneg (by omega), HO.out]; omega
    rw [← HQ.out, ← HO.out] at hcase
    obtain ⟨w0, w1, w2, w3⟩ := four_c HW.out.blk
    have hi := HW.out.inn.cell (i := c * 2 + q) (by omega)
    unfold innF at hi
    obtain ⟨x, HX⟩ : ∃ z, Hid (z = W.inn.getD (c * 2 + q) 0) := ⟨_, Lib.hid rfl⟩
    rw [← HX.out] at hi hcase
    have i1 : (0 : Int) ≤ (c : Int) := by omega
    have i2 : (c : Int) < (n : Int) := by omega
    have i3 : (0 : Int) ≤ (q : Int) := by omega
    have i4 : (q : Int) < 2 := by omega
    rcases hcase with ⟨hneg, f', nx, s', rfl, htie, hat, hco, hpl, hwf⟩ | ⟨hneg, rfl⟩
    · have fI := HW.out.inn.frozen (c * 2 + q)
      have HTIE := Lib.hid htie
      have HPL := Lib.hid hpl
      have HWF := Lib.hid hwf
      have HCO := Lib.hid hco
      have HW1 : Hid (WkAt B0 (wr.setCell ⟨ib, c * 2 + q, none⟩ (.int .i64 (s : Nat))) wb b mt nn mp np ab ib n v t ⟨W.arcs, W.inn.set (c * 2 + q) (s : Nat)⟩) := Lib.hid (HW.out.setI (by omega) _)
      have HG1 : Hid (Fr (fun k => k = ab ∨ k = ib) w (wr.setCell ⟨ib, c * 2 + q, none⟩ (.int .i64 (s : Nat)))) := Lib.hid (HFr.out.setCell (a := ⟨ib, c * 2 + q, none⟩) (.inl (.inr rfl)) _)
      clear htie hpl hwf hco
      go_upto_region 3 with fail
      obtain ⟨u1, HU1⟩ : ∃ z, Hid (z = wr.setCell ⟨ib, c * 2 + q, none⟩ (.int .i64 (s : Nat))) := ⟨_, Lib.hid rfl⟩
      rw [← HU1.out] at HW1 HG1 ⊢
      clear w0 w1 w2 w3 hi fI HU1
      obtain ⟨w0, w1, w2, w3⟩ := four_c HW1.out.blk
      have hA := HW1.out.arcs.cell (i := c * 4 + s) (by omega)
      have fA := HW1.out.arcs.frozen (c * 4 + s)
      simp only [numFn] at hA
      have j1 : (0 : Int) ≤ (s : Int) := by omega
      have j2 : (s : Int) < 4 := by omega
      have HW2 := Lib.hid (HW1.out.setA HV.out (k := c * 4 + s) (by omega) arc)
      have HG2 := Lib.hid (HG1.out.setCell (a := ⟨ab, c * 4 + s, none⟩) (.inl (.inl rfl)) (.int .i64 (arc : Nat)))
      go_upto_region 4 with fail
      obtain ⟨u2, HU2⟩ : ∃ z, Hid (z = u1.setCell ⟨ab, c * 4 + s, none⟩ (.int .i64 (arc : Nat))) := ⟨_, Lib.hid rfl⟩
      rw [← HU2.out] at HW2 HG2 ⊢
      clear w0 w1 w2 w3 hA fA HU2
      obtain ⟨w0, w1, w2, w3⟩ := four_c HW2.out.blk
      have hA := HW2.out.arcs.cell (i := c * 4 + o) (by omega)
      have fA := HW2.out.arcs.frozen (c * 4 + o)
      simp only [numFn] at hA
      have j3 : (0 : Int) ≤ (o : Int) := by omega
      have j4 : (o : Int) < 4 := by omega
      have harc : arc ≤ 100000 := by omega
      have HW3 : Hid (WkAt B0 (u2.setCell ⟨ab, c * 4 + o, none⟩ (.int .i64 ((arc : Int) + 1))) wb b mt nn mp np ab ib n v t ⟨(W.arcs.set (c * 4 + s) arc).set (c * 4 + o) (arc + 1), W.inn.set (c * 2 + q) (s : Nat)⟩) := Lib.hid (HW2.out.setA HV.out (k := c * 4 + o) (by omega) (arc + 1))
      have HG3 := Lib.hid (HG2.out.setCell (a := ⟨ab, c * 4 + o, none⟩) (.inl (.inl rfl)) (.int .i64 ((arc : Int) + 1)))
      go_upto_region 7 with fail
      obtain ⟨u3, HU3⟩ : ∃ z, Hid (z = u2.setCell ⟨ab, c * 4 + o, none⟩ (.int .i64 ((arc : Int) + 1))) := ⟨_, Lib.hid rfl⟩
      rw [← HU3.out] at HW3 HG3 ⊢
      clear w0 w1 w2 w3 hA fA HU3
      obtain ⟨g, cp, rfl, hpc⟩ := HW3.out.place h0
      obtain ⟨at4, HAT⟩ : ∃ z, Hid (z = t.places.getD (c * 4 + o) 9) := ⟨_, Lib.hid rfl⟩
      have htie := HTIE.out
      rw [← HAT.out] at hat htie
      have HTI2 := Lib.hid htie
      obtain ⟨n1, n2⟩ := nx
      have hk4 : c * 4 + o < 4 * n := by omega
      have hca : isCo (c, at4) := ⟨by omega, hat⟩
      have SS := fun z (hz : WkAt B0 z wb b mt nn mp np ab ib n (.slice (some ⟨g, 0, none⟩) n cp) t _) => sw7 (W := ⟨(W.arcs.set (c * 4 + s) arc).set (c * 4 + o) (arc + 1), W.inn.set (c * 2 + q) (s : Nat)⟩) hz hk4 hca HAT.out HTI2.out
      have HSS := Lib.hid SS
      obtain ⟨y0, HY0⟩ : ∃ z, Hid (z = u3.drew) := ⟨_, Lib.hid rfl⟩
      have HY00 : Hid (New u3 y0) := Lib.hid (by rw [HY0.out]; exact (Fr.refl _ _).drew)
      have HW4 := Lib.hid (HW3.out.new HY00.out)
      have hS := SS _ HW4.out
      rw [HY0.out] at hS
      clear SS htie hpc
      refine wp_region_held_drew (S := fun wz => wz.cell? ⟨wb, 0, none⟩ = some (.pointer (some ⟨b, 0, none⟩)) ∧ wz.cell? ⟨b, 16, none⟩ = some (.slice (some ⟨g, 0, none⟩) n cp) ∧ wz.cell? ⟨b, 17, none⟩ = some (.map (some mt)) ∧ wz.cell? ⟨g, c * 4 + o, none⟩ = some (.int .i64 (at4 : Nat)) ∧
        (Instr.lookup 67 (.map (some mt)) (.agg #[.int .i64 (c : Nat), .int .i64 (at4 : Nat)]) false).run Try.prog wz = .ok (.agg #[.int .i64 (n1 : Nat), .int .i64 (n2 : Nat)]) wz) (by kernel_rfl) hS (fun hHeld => ?_)
      rw [← HY0.out] at hHeld ⊢
      clear hS
      refine' tkO (i := 0) ?_
      (try simp only [Act.put, lq1, lq2, lq3, lq4, lq5, lq6])
      refine' tkO (i := 1) ?_
      (try simp only [Act.put, lq1, lq2, lq3, lq4, lq5, lq6])
      refine' tkO (i := 2) ?_
      (try simp only [Act.put, lq1, lq2, lq3, lq4, lq5, lq6])
      refine' tkO (i := 3) ?_
      (try simp only [Act.put, lq1, lq2, lq3, lq4, lq5, lq6])
      refine' tkO (i := 4) ?_
      (try simp only [Act.put, lq1, lq2, lq3, lq4, lq5, lq6])
      refine' tkO (i := 5) ?_
      (try simp only [Act.put, lq1, lq2, lq3, lq4, lq5, lq6])
      refine' tkO (i := 6) ?_
      (try simp only [Act.put, lq1, lq2, lq3, lq4, lq5, lq6])
      refine' tkO (i := 7) ?_
      (try simp only [Act.put, lq1, lq2, lq3, lq4, lq5, lq6])
      refine' tkO (i := 8) ?_
      (try simp only [Act.put, lq1, lq2, lq3, lq4, lq5, lq6])
      refine' tkO (i := 9) ?_
      (try simp only [Act.put, lq1, lq2, lq3, lq4, lq5, lq6])
      refine' tkO (i := 10) ?_
      (try simp only [Act.put, lq1, lq2, lq3, lq4, lq5, lq6])
      refine' tkO (i := 11) ?_
      (try simp only [Act.put, lq1, lq2, lq3, lq4, lq5, lq6])
      refine' tkO (i := 12) ?_
      (try simp only [Act.put, lq1, lq2, lq3, lq4, lq5, lq6])
      refine' tkO (i := 13) ?_
      (try simp only [Act.put, lq1, lq2, lq3, lq4, lq5, lq6])
      refine' tkO (i := 14) ?_
      (try simp only [Act.put, lq1, lq2, lq3, lq4, lq5, lq6])
      refine' tkO (i := 15) ?_
      (try simp only [Act.put, lq1, lq2, lq3, lq4, lq5, lq6])
      refine' tkO (i := 16) ?_
      (try simp only [Act.put, lq1, lq2, lq3, lq4, lq5, lq6])
      refine' tkO (i := 17) ?_
      (try simp only [Act.put, lq1, lq2, lq3, lq4, lq5, lq6])
      refine' tkO (i := 18) ?_
      (try simp only [Act.put, lq1, lq2, lq3, lq4, lq5, lq6])
      refine' tkO (i := 19) ?_
      (try simp only [Act.put, lq1, lq2, lq3, lq4, lq5, lq6])
      refine' tkO (i := 20) ?_
      (try simp only [Act.put, lq1, lq2, lq3, lq4, lq5, lq6])
      refine' tkO (i := 21) ?_
      (try simp only [Act.put, lq1, lq2, lq3, lq4, lq5, lq6])
      refine rdO (i := 22) (fun K hK => ?_)
      (try simp only [lq1, lq2, lq3])
      go_simp
      have HN5 : Hid (New u3 (y0.alloc (.cells #[.int .i64 0, .int .i64 0] 63))) := Lib.hid (HY00.out.alloc _)
      refine hK.out _ _ (HSS.out _ (HW3.out.new HN5.out)) (fun hHeld => ?_)
      clear hK K
      (try simp only [Act.put, lq1, lq2, lq3, lq4, lq5, lq6])
      refine rdO (i := 23) (fun K hK => ?_)
      (try simp only [lq1, lq2, lq3])
      go_simp
      have HN6 : Hid (New u3 (y0.alloc (.cells #[.int .i64 (n1 : Nat), .int .i64 (n2 : Nat)] 63))) := Lib.hid (HY00.out.alloc _)
      refine hK.out _ _ (HSS.out _ (HW3.out.new HN6.out)) (fun hHeld => ?_)
      clear hK K
      (try simp only [Act.put, lq1, lq2, lq3, lq4, lq5, lq6])
      refine wpAnyH_done (by kernel_rfl) ?_ _
      obtain ⟨Bn, HBN⟩ : ∃ z, Hid (z = y0.heap.size) := ⟨_, Lib.hid rfl⟩
      obtain ⟨u5, HU5⟩ : ∃ z, Hid (z = y0.alloc (.cells #[.int .i64 (n1 : Nat), .int .i64 (n2 : Nat)] 63)) := ⟨_, Lib.hid rfl⟩
      have HBN5 : Hid (u5.heap[Bn]? = some (.cells #[.int .i64 (n1 : Nat), .int .i64 (n2 : Nat)] 63 (0, 0))) := Lib.hid (by rw [HU5.out, HBN.out]; exact heap_alloc_new y0 _)
      rw [← HU5.out] at HN6 ⊢
      rw [← HBN.out]
      have HW5 := Lib.hid (HW3.out.new HN6.out)
      clear HU5 HBN hHeld
      go_wp2_with fail
      obtain ⟨y1, HY1⟩ : ∃ z, Hid (z = u5.drew) := ⟨_, Lib.hid rfl⟩
      have HY10 : Hid (New u5 y1) := Lib.hid (by rw [HY1.out]; exact (Fr.refl _ _).drew)
      have HW6 := Lib.hid (HW5.out.new HY10.out)
      have hS := sw8 HW6.out HCO.out HPL.out (HY10.out.blk HBN5.out fun x => x)
      rw [HY1.out] at hS
      refine wp_region_held_drew (S := fun wz => wz.cell? ⟨Bn, 0, none⟩ = some (.int .i64 (n1 : Nat)) ∧ wz.cell? ⟨Bn, 1, none⟩ = some (.int .i64 (n2 : Nat)) ∧ wz.cell? ⟨wb, 1, none⟩ = some (.map (some mp)) ∧
        (Instr.lookup 75 (.map (some mp)) (.agg #[.int .i64 (n1 : Nat), .int .i64 (n2 : Nat)]) false).run Try.prog wz = .ok (.int .i64 (s' : Nat)) wz) (by kernel_rfl) hS (fun hHeld => ?_)
      rw [← HY1.out] at hHeld ⊢
      clear hS
      refine' tkO (i := 0) ?_
      (try simp only [Act.put, lq1, lq2, lq3, lq4, lq5, lq6])
      refine' tkO (i := 1) ?_
      (try simp only [Act.put, lq1, lq2, lq3, lq4, lq5, lq6])
      refine' tkO (i := 2) ?_
      (try simp only [Act.put, lq1, lq2, lq3, lq4, lq5, lq6])
      refine' tkO (i := 3) ?_
      (try simp only [Act.put, lq1, lq2, lq3, lq4, lq5, lq6])
      refine' tkO (i := 4) ?_
      (try simp only [Act.put, lq1, lq2, lq3, lq4, lq5, lq6])
      refine' tkO (i := 5) ?_
      (try simp only [Act.put, lq1, lq2, lq3, lq4, lq5, lq6])
      refine' tkO (i := 6) ?_
      (try simp only [Act.put, lq1, lq2, lq3, lq4, lq5, lq6])
      refine' tkO (i := 7) ?_
      (try simp only [Act.put, lq1, lq2, lq3, lq4, lq5, lq6])
      refine' tkO (i := 8) ?_
      (try simp only [Act.put, lq1, lq2, lq3, lq4, lq5, lq6])
      refine' tkO (i := 9) ?_
      (try simp only [Act.put, lq1, lq2, lq3, lq4, lq5, lq6])
      refine wpAnyH_done (by kernel_rfl) ?_ _
      have HG6 : Hid (Fr (fun k => k = ab ∨ k = ib) w y1) := Lib.hid (HG3.out.trans ((HN6.out.trans HY10.out).mono fun _ x => x.elim))
      have HWF2 : Hid (Kn.walkF t f' n1 s' (arc + 1) ⟨(W.arcs.set (c * 4 + s) arc).set (c * 4 + o) (arc + 1), W.inn.set (c * 2 + q) (s : Nat)⟩ = some R) := Lib.hid (by have h := HWF.out; unfold Kn.stepW at h; rw [← HQ.out, ← HO.out] at h; exact h)
      clear HY1 HY0 hHeld
      go_wp2
      go_roundg f'
      case rel => exact ⟨n1, s', arc + 1, _, rfl, rfl, by go_num, by omega, HW6, HWF2, HG6⟩
      case measure => omega
    · go_wp2
      go_ret
      exact ⟨rfl, HW.out, by omega, HFr.out⟩
end Go.Proofs.Ytcfpdeeipbekfaa
