/- Words for rows of polynomials, maps and counts of bits; what alex and bracket open. -/
import Derived.Maps.RangeWalk
import Derived.WideKeyEntry
import Derived.Test.YtcfpdeeipbekfaaPS
import Derived.Test.YtcfpdeeipbekfaaTK
import Derived.Test.YtcfpdeeipbekfaaMAlld
namespace Go.Proofs.Ytcfpdeeipbekfaa
open Go.RowKit Go.Shelf
open Go.ChangeMaps (setBlock heap_setBlock_same heap_setBlock_other)
open Go.WideMaps (KeyLaw)
open Go.WideElems (entry_then_store)
open Go.Maps (Keyed)
theorem and_all : ((List.range 4096).all fun q => decide (bits .and .i64 ((q : Nat) : Int) 1 = ((q % 2 : Nat) : Int))) = true := by decide +kernel
theorem ShAt.crs {w : World} {b : Nat} {X : List Kn.Cr} {L : Int} (h : ShAt w b X L) : ∃ a c, w.cell? ⟨b, 0, none⟩ = some (.slice a X.length c) ∧ w.cell? ⟨b, 1, none⟩ = some (.int .i64 L) ∧ CrsAt w a X := by
  obtain ⟨v, bi, bo, base, s⟩ := h; obtain ⟨a, c, rfl, hc⟩ := CrsAt.of_owns s.own
  exact ⟨a, c, s.c2.1, s.c2.2.1, hc⟩
theorem five_c {W : World} {B t : Nat} {a b c d e : Value} (h : W.heap[B]? = some (.cells #[a, b, c, d, e] t (0, 0))) :
    W.cell? ⟨B, 0, none⟩ = some a ∧ W.cell? ⟨B, 1, none⟩ = some b ∧ W.cell? ⟨B, 2, none⟩ = some c ∧ W.cell? ⟨B, 3, none⟩ = some d ∧ W.cell? ⟨B, 4, none⟩ = some e := by
  refine ⟨cell_of_row _ _ 0 _ t (0, 0) h, cell_of_row _ _ 1 _ t (0, 0) h, cell_of_row _ _ 2 _ t (0, 0) h, cell_of_row _ _ 3 _ t (0, 0) h, cell_of_row _ _ 4 _ t (0, 0) h⟩
theorem two_c {W : World} {B t : Nat} {a b : Value} (h : W.heap[B]? = some (.cells #[a, b] t (0, 0))) :
    W.cell? ⟨B, 0, none⟩ = some a ∧ W.cell? ⟨B, 1, none⟩ = some b := ⟨cell_of_row _ _ 0 _ t (0, 0) h, cell_of_row _ _ 1 _ t (0, 0) h⟩
theorem Kn.cr_parts' (X : List Kn.Cr) (k : Nat) : ∃ a b c d p, Hid (Kn.cr X k = ⟨a, b, c, d, p⟩) := by
  cases h : Kn.cr X k with
  | mk a b c d p => exact ⟨a, b, c, d, p, Lib.hid rfl⟩
def oc0 (x : Int) : Int := IntKind.u64.wrap (bits BinOp.and IntKind.u64 (x / 2) 6148914691236517205 + bits BinOp.and IntKind.u64 x 6148914691236517205)
def oc1 (x : Int) : Int := IntKind.u64.wrap (bits BinOp.and IntKind.u64 (oc0 x / 4) 3689348814741910323 + bits BinOp.and IntKind.u64 (oc0 x) 3689348814741910323)
def oc2 (x : Int) : Int := bits BinOp.and IntKind.u64 (IntKind.u64.wrap (oc1 x / 16 + oc1 x)) 1085102592571150095
def oc3 (x : Int) : Int := IntKind.u64.wrap (oc2 x + oc2 x / 256)
def oc4 (x : Int) : Int := IntKind.u64.wrap (oc3 x + oc3 x / 65536)
def oc5 (x : Int) : Int := IntKind.u64.wrap (oc4 x + oc4 x / 4294967296)
def oc (x : Int) : Int := bits BinOp.and IntKind.i64 (wrap64 (oc5 x)) 127
theorem oc_all : ((List.range 4096).all fun x => decide (oc ((x : Nat) : Int) = ((Kn.pop 12 x : Nat) : Int))) = true := by decide +kernel
set_option maxRecDepth 100000 in
set_option maxHeartbeats 1000000 in
theorem ones64_any (x : Nat) (hx : x < 4096) (w : World) : Calls Try.prog 67 #[.int .u64 x] w fun e w' => e = .returned (.int .i64 (Kn.pop 12 x : Nat)) ∧ New w w' := by
  go_enter Try.func67, Try.ntmps67
  go_wp2_with fail
  go_ret
  refine ⟨ret_int ?_, Fr.refl _ _⟩
  exact of_decide_eq_true (List.all_eq_true.1 oc_all x (List.mem_range.2 hx))
set_option maxHeartbeats 1000000 in
theorem ones_any (x : Nat) (hx : x < 4096) (w : World) : Calls Try.prog 55 #[.int .u64 x] w fun e w' => e = .returned (.int .i64 (Kn.pop 12 x : Nat)) ∧ New w w' := by
  have CC := Lib.hid (ones64_any x hx)
  go_enter Try.func55, Try.ntmps55
  go_wp2_with (go_at_call 67; refine (CC.out _).mono ?_; rintro e w4 ⟨rfl, hF⟩; have HF := Lib.hid hF; clear hF)
  go_ret
  exact ⟨rfl, HF.out⟩
def GaveOpen (c : Nat) (X : List Kn.Cr) (L : Int) (w : World) (e : Ending) (w' : World) : Prop :=
  New w w' ∧ ((c = 0 ∧ ∃ b, e = .returned (.tuple #[.pointer (some ⟨b, 0, none⟩), .int .i64 0]) ∧ ShAt w' b X L) ∨ (c ≠ 0 ∧ e = .returned (.tuple #[.pointer none, .int .i64 c])))
def opC (X : List Kn.Cr) (L : Int) : Nat := if Kn.mayB X L then (if Kn.planarB X then 0 else 5) else 7
set_option maxRecDepth 100000 in
set_option maxHeartbeats 1000000 in
theorem open_any (a : Option Addr) (n c : Nat) (X : List Kn.Cr) (L : Int) (w : World) (hx : CrsAt w a X) (hn : n = X.length) (lx : n ≤ 9223372036854775807) (l1 : -9223372036854775808 ≤ L) (l2 : L ≤ 9223372036854775807) :
    Calls Try.prog 49 #[.agg #[.slice a n c, .int .i64 L]] w (GaveOpen (opC X L) X L w) := by
  have HN := Lib.hid hn
  have HX := Lib.hid hx
  clear hx hn
  go_enter Try.func49, Try.ntmps49
  go_wp2_with (go_at_call 18; refine (new_any a n c X L _ (New.crs ((Fr.refl _ _).alloc _) HX.out) HN.out lx l1 l2).mono ?_; rintro e w4 ⟨hF, h5⟩; rcases h5 with ⟨ho, b, rfl, hs, _⟩ | ⟨ho, rfl⟩)
  · have HF : Hid (New w w4) := Lib.hid (((Fr.refl _ _).alloc _).trans hF)
    have HO := Lib.hid ho
    have HS := Lib.hid hs
    have HOK := Lib.hid (mayB_ok ho)
    clear hF ho hs
    obtain ⟨p, HP⟩ : ∃ p, Hid (p = Kn.planarB X) := ⟨_, Lib.hid rfl⟩
    have HOC : Hid (opC X L = if p then 0 else 5) := Lib.hid (by unfold opC; rw [HO.out, if_pos rfl, HP.out])
    cases p
    all_goals
      go_wp2_with (go_at_call 19; refine (planar_any b X L _ HS.out HOK.out.1 HOK.out.2).mono ?_; rintro e w5 ⟨rfl, hE⟩; rw [← HP.out]; have HE := Lib.hid hE; clear hE)
      go_ret2
    · exact ⟨HF.out.trans HE.out, .inr ⟨by rw [HOC.out]; decide, by rw [HOC.out]; rfl⟩⟩
    · exact ⟨HF.out.trans HE.out, .inl ⟨by rw [HOC.out]; rfl, b, rfl, New.shAt HE.out HS.out⟩⟩
  · have HF : Hid (New w w4) := Lib.hid (((Fr.refl _ _).alloc _).trans hF)
    have HOC : Hid (opC X L = 7) := Lib.hid (by unfold opC; rw [ho]; rfl)
    clear hF ho
    go_wp2
    go_ret2
    exact ⟨HF.out, .inr ⟨by rw [HOC.out]; decide, by rw [HOC.out]; rfl⟩⟩
theorem Try.zero3' (w : World) : (zeroValue 3).run Try.prog w = .ok (.int .i64 0) w := by kernel_rfl
theorem setBlock_twice (w : World) (b : Nat) (x y : Obj) : setBlock (setBlock w b x) b y = setBlock w b y := by
  unfold setBlock
  congr 1
  apply Array.ext_getElem?
  intro i
  simp [Array.getElem?_setIfInBounds]
theorem ints_few {N : Nat} : ∀ {l : List Int}, l.Nodup → (∀ x ∈ l, -(N : Int) ≤ x ∧ x ≤ N) → l.length ≤ 2 * N + 1 := by
  intro l hd hl
  have h1 : (l.map fun x : Int => (x + (N : Int)).toNat).Nodup := by
    rw [List.nodup_iff_pairwise_ne, List.pairwise_map]
    rw [List.nodup_iff_pairwise_ne] at hd
    refine List.Pairwise.imp_of_mem ?_ hd
    intro a b ha hb hne e
    have := hl a ha
    have := hl b hb
    exact hne (by omega)
  have := Kn.nodup_le h1 (m := List.range (2 * N + 1)) (fun x hx => by
    obtain ⟨y, hy, rfl⟩ := List.mem_map.1 hx
    have := hl y hy
    exact List.mem_range.2 (by omega))
  simpa using this
theorem Wk.few {w : World} {v : Value} {l : List Pl.T} {n N : Nat} (h : Wk w v l n) (he : ∀ t ∈ l, -(N : Int) ≤ t.1 ∧ t.1 ≤ N) : Wk w v l (2 * N + 1) := by
  obtain ⟨b, D, rfl, ho, hd⟩ := h
  obtain ⟨k1, k2, k3⟩ := keys_facts ho
  have h1 := ints_few k1 (N := N) fun x hx => by
    obtain ⟨t, ht, rfl⟩ := hd.key x ((k2 x).1 hx)
    exact he t ht
  refine ⟨b, D, rfl, ?_, hd⟩
  rw [k3] at h1
  obtain ⟨es, clock, hb, hf, hn, rfl⟩ := ho
  refine ⟨es, clock, hb, hf, ?_, rfl⟩
  rw [Maps.size_eq, length_sorted] at h1
  simpa using h1
abbrev PwR (w : World) (v : Value) (k : Nat) : Prop := Wk w v (Kn.pw k) (4 * k + 1)
abbrev PwAt (base : Nat) (w : World) (v : Value) (m : Nat) : Prop := Rows PwR base 101 w v (List.range m)
theorem PwAt.new {base : Nat} {w w' : World} {v : Value} {m : Nat} (h : PwAt base w v m) (hf : New w w') : PwAt base w' v m := Rows.new h hf fun _ _ x => New.wk hf x
theorem PwAt.at {base : Nat} {w : World} {v : Value} {m : Nat} (h : PwAt base w v m) {i : Nat} (hi : i < m) : ∃ g c b, v = .slice (some ⟨g, 0, none⟩) m c ∧ w.cell? ⟨g, i, none⟩ = some (.map (some b)) ∧ Wk w (.map (some b)) (Kn.pw i) (4 * i + 1) := by
  obtain ⟨vs, h1, h2⟩ := h
  have hl : vs.length = m := by rw [h2.len, List.length_range]
  rw [hl] at h1
  obtain ⟨a, c, rfl, _, h3⟩ := own_shape h1
  obtain ⟨g, rfl, _, h4⟩ := h3 (by omega)
  have h5 := h2.at_ i (by omega) (by simpa using hi)
  rw [List.getElem_range] at h5
  obtain ⟨b, D, e, r⟩ := h5
  refine ⟨g, c, b, rfl, ?_, ⟨b, D, rfl, r⟩⟩
  rw [h4 i (by omega), e]
theorem wrap_all : ((List.range 17).all fun n => decide (wrap64 (2 ^ n) = ((2 ^ n : Nat) : Int))) = true := by decide +kernel
theorem wpList_insert_own {H : Type} {P : Program} (w : World) {ops : Array Oper} {rest : List Oper} {o : Oper} {a : Act} {Q : Exit → Act → World → Prop}
    (hg : o.guard = none) (m x v : Operand) (t : TypeId) (hop : o.op = Op.insert t m x v)
    (k e : TypeId) (K : Keyed P k) (ht : P.underlying t = some (.map k e)) (R : Value → Option (DataW H × List MemPlace)) (b n : Nat) (D : DataW H)
    (hm : a.eval m = .map (some b)) (hown : w.ownsMap P k R b n D) (hn : n < maxLen) (key val : Value) (kl : Lit) (hx : a.eval x = key) (hv : a.eval v = val) (hkey : keyOf P k key = some kl)
    (d : DataW H) (ps : List MemPlace) (hval : R val = some (d, ps))
    (hK : ∀ w', w'.ownsMap P k R b (n + 1) (D.put kl d) → w.grownBy w' (some b) → wpList P ops Q rest (a.put o.dst undef) w') :
    wpList P ops Q (o :: rest) a w := by
  refine wpList_plain hg fun K' hK' => ?_
  obtain ⟨w', hrun, r1, r2⟩ := hown.update K ht hn hkey hval
  unfold Oper.wp
  simp [execOp, hop, hm, hx, hv, hrun, Result.andThen]
  exact hK' _ _ (hK w' r1 r2)
theorem Wk.fr {S : Nat → Prop} {w w' : World} {b : Nat} {l : List Pl.T} {n : Nat} (h : Wk w (.map (some b)) l n) (hF : Fr S w w') (hs : ¬ S b) : Wk w' (.map (some b)) l n := by
  obtain ⟨b', D, e, ⟨es, clock, hb, r⟩, hd⟩ := h
  cases e
  exact ⟨b, D, rfl, ⟨es, clock, (hF.block b (Array.getElem?_eq_some_iff.1 hb).1 hs).trans hb, r⟩, hd⟩
theorem Wk.blk {w : World} {v : Value} {l : List Pl.T} {n : Nat} (h : Wk w v l n) : ∃ b es ck, v = .map (some b) ∧ w.heap[b]? = some (.map es ck) := by
  obtain ⟨b, D, rfl, ⟨es, clock, hb, _⟩, _⟩ := h
  exact ⟨b, es, clock, rfl, hb⟩
theorem Wk.mono {w : World} {v : Value} {l : List Pl.T} {n n' : Nat} (h : Wk w v l n) (hn : n ≤ n') : Wk w v l n' := by
  obtain ⟨b, D, rfl, ho, hd⟩ := h
  exact ⟨b, D, rfl, ho.mono hn, hd⟩
theorem own_map1 (w : World) (b : Nat) : (w.alloc (.cells #[.map (some b)] 101)).ownsRow w.heap.size 101 1 (.slice (some ⟨w.heap.size, 0, none⟩) 1 1) 1 [.map (some b)] :=
  ⟨rfl, .inr ⟨w.heap.size, 1, #[.map (some b)], rfl, Nat.le_refl _, heap_alloc_new _ _, Nat.le_refl _, by unfold maxLen; omega, rfl, rfl⟩⟩
theorem PwAt.one {w : World} {b base : Nat} (h : Wk w (.map (some b)) [(0, 1)] 1) (hb : base ≤ w.heap.size) : PwAt base (w.alloc (.cells #[.map (some b)] 101)) (.slice (some ⟨w.heap.size, 0, none⟩) 1 1) 1 :=
  ⟨[.map (some b)], own_base (own_map1 w b) hb, ⟨rfl, fun i h1 h2 => by
    obtain rfl : i = 0 := by simpa using h1
    exact New.wk ((Fr.refl _ _).alloc _) h⟩⟩
end Go.Proofs.Ytcfpdeeipbekfaa
