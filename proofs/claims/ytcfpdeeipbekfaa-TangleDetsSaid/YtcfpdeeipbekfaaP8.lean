/- Walks: the keys of a map, sorted; Form. -/
import Derived.Shelf.AbstractIn
import Derived.Test.YtcfpdeeipbekfaaP7
namespace Go.Proofs.Ytcfpdeeipbekfaa
open Go.RowKit Go.Maps Go.Sort Go.Shelf

theorem sortsA (m : Nat) : AnyZI.SortsIn Try.prog Try.sortedA_ren Fence.wide m :=
  ⟨fun blk off cap ss W hH hblk hsz => callsIn_wide.2 (AnyM.slices_Sort_int Try.sortA blk off cap ss W hH hblk hsz),
   fun p cap W => callsIn_wide.2 (AnyM.slices_Sort_int_none Try.sortA p cap W)⟩
theorem keysC_any (mb : Option Nat) (W : World) : Calls Try.prog 58 #[.map mb] W fun e w' => e = .returned (.func (.func 69) #[] #[.pointer (some ⟨W.heap.size, 0, none⟩)]) ∧ w' = W.alloc (.cells #[.map mb] 101) :=
  (callsIn_wide (n := 5)).1 (AnyZI.keys_in Try.keysA Fence.wide 5 trivial rfl mb W)
def Sorted (D : DataW Unit) (w : World) (e : Ending) (w' : World) : Prop :=
  ∃ (v : Value) (ss : List Int), e = .returned v ∧ ss.Perm (intKeys D) ∧ w'.ownsRow w.heap.size 3 1 v ss.length ((ss.mergeSort (fun x y => decide (x ≤ y))).map encZ) ∧ Below w.heap.size w w'
theorem sortedC_any (b nn : Nat) (D0 : DataW Unit) (w : World) (hown : OM w b nn D0) (hmax : Maps.size D0 ≤ maxLen) (hbytes : Maps.size D0 * 8 ≤ 140737488355328) :
    Calls Try.prog 57 #[.func (.func 69) #[] #[.pointer (some ⟨w.heap.size, 0, none⟩)]] (w.alloc (.cells #[.map (some b)] 101)) (Sorted D0 (w.alloc (.cells #[.map (some b)] 101))) := by
  have hbl := hown.lt
  have hseq : SeqGives Fence.wide 2 Try.prog 69 #[.pointer (some ⟨w.heap.size, 0, none⟩)] encZ (fun ss => ss.Perm (intKeys D0)) (Maps.size D0) (w.alloc (.cells #[.map (some b)] 101)) :=
    AnyZI.keys_gives (ρ := Try.keysA_ren) { Try.keysA with } Fence.wide _ trivial rfl (by omega) w.heap.size b nn D0 _ (by simp) (by simp) (by
      obtain ⟨es, clock, hb, Ft, hs, hD⟩ := hown
      exact ⟨es, clock, (Below.heap_alloc _ _ b hbl).trans hb, Ft, hs, hD⟩)
  have cS := AnyZI.sorted_in Try.sortedA Fence.wide 5 trivial trivial trivial trivial rfl (by omega) (sortsA _) (enters_of Try.func46 (by kernel_rfl) rfl) 69 #[.pointer (some ⟨w.heap.size, 0, none⟩)] trivial (enters_of Try.func69 (by kernel_rfl) rfl) _ _ hmax hbytes _ hseq
  change CallsIn _ _ Try.prog 57 _ _ _ at cS
  refine ((callsIn_wide (n := 5)).1 cS).mono ?_
  rintro e w' ⟨v, ss, rfl, hS, hrow, hnil, hb⟩
  exact ⟨v, ss, rfl, hS, hrow, hb⟩

theorem keys_facts {w : World} {b n : Nat} {D : DataW Unit} (ho : OM w b n D) : (intKeys D).Nodup ∧ (∀ x, x ∈ intKeys D ↔ Maps.has D (.int .i64 x) = true) ∧ (intKeys D).length = Maps.size D := by
  obtain ⟨es, hD, hpw, _⟩ := ho.entries law3
  obtain ⟨es', hD', hko⟩ := ho.keysOf
  obtain rfl : es = es' := by rw [hD] at hD'; simpa using hD'
  subst hD
  have hk : ∀ p ∈ es, ∃ x, p.1 = .int .i64 x := fun p hp => by obtain ⟨v, hv⟩ := hko p hp; obtain ⟨x, _, hx, _⟩ := Maps.keyOf_i64 Try.underlying3 hv; exact ⟨x, hx⟩
  refine ⟨?_, fun x => ?_, ?_⟩
  · show (es.map fun p => Go.intOf p.1).Nodup
    refine List.pairwise_map.2 (hpw.imp_of_mem fun {p q} hp' hq' hne e => hne ?_)
    obtain ⟨a, ha⟩ := hk p hp'
    obtain ⟨b, hb⟩ := hk q hq'
    rw [ha, hb] at e ⊢
    exact congrArg _ e
  · rw [Maps.has_eq, List.any_eq_true]
    show x ∈ (es.map fun p => Go.intOf p.1) ↔ _
    rw [List.mem_map]
    constructor
    · rintro ⟨p, hp', rfl⟩
      obtain ⟨a, ha⟩ := hk p hp'
      exact ⟨p, hp', by rw [ha]; simp [Lit.sameKey, Go.intOf]⟩
    · rintro ⟨p, hp', hs⟩
      obtain ⟨a, ha⟩ := hk p hp'
      rw [ha] at hs
      exact ⟨p, hp', by rw [ha]; simpa [Lit.sameKey, Go.intOf] using hs⟩
  · show (es.map fun p => Go.intOf p.1).length = _
    rw [List.length_map, Maps.size_eq]
theorem up_of : ∀ {l : List Int}, l.Pairwise (fun a b => a ≤ b) → l.Nodup → Pl.Up l
  | [], _, _ => trivial
  | k :: l, hp, hn => by
    rw [List.pairwise_cons] at hp
    rw [List.nodup_cons] at hn
    exact ⟨fun x hx => by
      have h1 := hp.1 x hx
      have h2 : k ≠ x := fun e => hn.1 (e ▸ hx)
      omega, up_of hp.2 hn.2⟩
theorem up_sorted {D : DataW Unit} {w : World} {b n : Nat} (ho : OM w b n D) {ss : List Int} (hp : ss.Perm (intKeys D)) : Pl.Up (ss.mergeSort leI) ∧ ∀ x, x ∈ ss.mergeSort leI ↔ Maps.has D (.int .i64 x) = true := by
  have hf := keys_facts ho
  have tr : ∀ a b c : Int, leI a b = true → leI b c = true → leI a c = true := fun a b c h1 h2 => by simp only [leI, decide_eq_true_eq] at *; exact Int.le_trans h1 h2
  have to1 : ∀ a b : Int, (leI a b || leI b a) = true := fun a b => by simp only [leI, Bool.or_eq_true, decide_eq_true_eq]; exact Int.le_total a b
  have hq := (List.mergeSort_perm ss leI).trans hp
  refine ⟨up_of ?_ (hq.nodup_iff.2 hf.1), fun x => hq.mem_iff.trans (hf.2.1 x)⟩
  refine (List.pairwise_mergeSort tr to1 ss).imp fun h => ?_
  simpa [leI] using h
theorem form_is {D : DataW Unit} {l : List Pl.T} {ks : List Int} (hd : RD D l) (hu : Pl.Up ks) (hm : ∀ x, x ∈ ks ↔ Maps.has D (.int .i64 x) = true) : Pl.Is (Pl.ofMap (Pl.co l) ks) l := by
  refine ⟨Pl.ofMap_form hu, fun e => ?_⟩
  rw [Pl.ofMap_co e hu]
  by_cases h : e ∈ ks
  · rw [if_pos h]
  · rw [if_neg h]
    refine (hd.not_has ?_).symm
    rw [Bool.eq_false_iff]
    exact fun x => h ((hm e).2 x)
theorem ints_of_own {w : World} {base : Nat} {v : Value} {n : Nat} {ks : List Int} (h : w.ownsRow base 3 1 v n (ks.map encZ)) : ∃ a c, v = .slice a n c ∧ n = ks.length ∧ IntsAt w a ks := by
  have hl : ks.length = n := by have := h.1; rw [List.length_map] at this; omega
  rcases h.2 with ⟨rfl, hn⟩ | ⟨g, cap, cur, rfl, hb, hg, h1, h2, h3, h4⟩
  · have : ks = [] := List.eq_nil_of_length_eq_zero (by omega)
    subst this
    subst hn
    exact ⟨none, 0, rfl, rfl, .inl rfl⟩
  · refine ⟨_, _, rfl, hl.symm, .inr ⟨g, 0, rfl, fun i hi => ?_⟩⟩
    rw [cell_of_row w g (0 + i) cur 3 (0, 0) hg, Nat.zero_add, ← Array.getElem?_toList]
    have h5 : (cur.toList.take (n * 1))[i]? = (ks.map encZ)[i]? := by rw [h4]
    rw [List.getElem?_take_of_lt (by omega)] at h5
    rw [h5, List.getElem?_map, List.getElem?_eq_getElem hi, List.getD_eq_getElem?_getD, List.getElem?_eq_getElem hi]
    rfl
theorem ofMap_take (f : Int → Int) {ks : List Int} {k : Nat} (hk : k < ks.length) : Pl.ofMap f (ks.take (k + 1)) = Pl.ofMap f (ks.take k) ++ (if f (ks.getD k 0) = 0 then [] else [(ks.getD k 0, f (ks.getD k 0))]) := by
  rw [List.take_succ_eq_append_getElem hk, Pl.ofMap_app, List.getD_eq_getElem?_getD, List.getElem?_eq_getElem hk]
  rfl

theorem ne_no {a : Int} (h : a = 0) : (a != 0) = false := by rw [h]; rfl
theorem ne_yes {a : Int} (h : a ≠ 0) : (a != 0) = true := by rw [bne_iff_ne]; exact h
def GaveForm (l : List Pl.T) (w : World) (e : Ending) (w' : World) : Prop := ∃ m, Pl.Is m l ∧ GaveT m w e w'
def GaveFormO (l : List Pl.T) (w : World) (e : Ending) (w' : World) : Prop := ∃ m, Pl.Is m l ∧ ∃ v, e = .returned v ∧ OwnT 0 w' v m ∧ New w w'
theorem OwnT.base0 {base : Nat} {w : World} {v : Value} {l : List Pl.T} (h : OwnT base w v l) : OwnT 0 w v l := by
  refine ⟨h.1, ?_⟩
  rcases h.2 with hn | ⟨g, cap, cur, rfl, hb, r⟩
  · exact .inl hn
  · exact .inr ⟨g, cap, cur, rfl, Nat.zero_le _, r⟩

set_option maxRecDepth 100000 in
set_option maxHeartbeats 1000000 in
theorem formO_any (v : Value) (l : List Pl.T) (n : Nat) (w : World) (hw : Wk w v l n) (hn : n ≤ 1000000) :
    Calls Try.prog 36 #[v] w (GaveFormO l w) := by
  obtain ⟨b, D, rfl, ho, hd⟩ := hw
  have hsz := ho.size
  have hc := sortedC_any b n D w ho (by unfold maxLen; omega) (by omega)
  have HO := Lib.hid ho
  have HD := Lib.hid hd
  have HC := Lib.hid hc
  have HK := Lib.hid (keys_facts ho)
  clear ho hd hc
  obtain ⟨wm, HWM⟩ : ∃ wm, Hid (wm = w.alloc (.cells #[.map (some b)] 101)) := ⟨_, Lib.hid rfl⟩
  have HFm : Hid (New w wm) := Lib.hid (by rw [HWM.out]; exact (Fr.refl _ _).alloc _)
  obtain ⟨i0, hi, hz0, hz1, hz2⟩ := info_parts info26
  go_enter Try.func36, Try.ntmps36
  go_wp2_with fail
  refine (keysC_any _ _).mono ?_
  rintro e w0 ⟨rfl, hw0⟩
  rw [← HWM.out] at hw0
  subst hw0
  go_wp2_with fail
  rw [← HWM.out] at HC
  refine HC.out.mono ?_
  rintro e w1 ⟨vs, ss, rfl, hp, hrow, hB⟩
  have hus := up_sorted HO.out hp
  have hrow' := hrow
  obtain ⟨ks, HKS⟩ : ∃ ks, Hid (ks = ss.mergeSort leI) := ⟨_, Lib.hid rfl⟩
  have hlen := List.length_mergeSort (le := leI) ss
  rw [← HKS.out] at hlen
  have hrow2 : w1.ownsRow w0.heap.size 3 1 vs ss.length (ks.map encZ) := by rw [HKS.out]; exact hrow
  obtain ⟨a, c, rfl, hkl, hi1⟩ := ints_of_own hrow2
  rw [← HKS.out] at hus
  obtain ⟨kn, HKN⟩ : ∃ kn, Hid (kn = ks.length) := ⟨_, Lib.hid rfl⟩
  rw [hkl, ← HKN.out]
  have hkn : kn ≤ 1000000 := by
    rw [HKN.out, ← hkl, hp.length_eq, HK.out.2.2]
    omega
  have HU := Lib.hid hus
  have HI := Lib.hid hi1
  have HF1 : Hid (New w w1) := Lib.hid (HFm.out.trans (Fr.ofBelow hB _))
  have HO1 := Lib.hid (New.om HF1.out HO.out)
  clear hus hi1 hB hrow hrow' hrow2 hlen hkl hp hsz
  go_wp2
  go_loopw [3, 5, 10] (fun v _ i wr => ∃ (k m : Nat) (lo : List Pl.T), k ≤ kn ∧ i = .int .i64 k ∧ lo.length = m ∧ m ≤ k ∧ Hid (lo = Pl.ofMap (Pl.co l) (ks.take k)) ∧ Hid (OwnT w1.heap.size wr v lo) ∧ Hid (New w1 wr)) (fun _ _ i _ => kn - (intOf i).toNat)
  case atStart => exact ⟨0, 0, [], by omega, rfl, rfl, by omega, Lib.hid (by rw [List.take_zero]; rfl), Lib.hid (OwnT.nil_ _ _), Lib.hid (Fr.refl _ _)⟩
  case round =>
    obtain ⟨k, m, lo, hk, rfl, hm, hmk, HL, HOT, HF2⟩ := hrel
    have HF : Hid (New w wr) := Lib.hid (HF1.out.trans HF2.out)
    have HM := Lib.hid hm
    clear hm
    by_cases hlt : k < kn
    · have hkl : k < ks.length := by have := HKN.out; omega
      obtain ⟨b1, o1, rfl, d1⟩ := (New.ints HF2.out HI.out).at hkl
      have hs := ofMap_take (Pl.co l) hkl
      obtain ⟨x, HX⟩ : ∃ x, Hid (x = ks.getD k 0) := ⟨_, Lib.hid rfl⟩
      have hx := intKeys_wf (H := Unit) HO.out Try.underlying3 x (by
        rw [(keys_facts HO.out).2.1, ← HU.out.2, HX.out, List.getD_eq_getElem?_getD, List.getElem?_eq_getElem hkl]
        exact List.getElem_mem hkl)
      rw [← HX.out, ← HL.out] at hs
      rw [← HX.out] at d1
      obtain ⟨q, HQ⟩ : ∃ q, Hid (q = Pl.co l x) := ⟨_, Lib.hid rfl⟩
      rw [← HQ.out] at hs
      have HS := Lib.hid hs
      have HOr := Lib.hid (New.om HF.out HO.out)
      have HXW := Lib.hid hx
      clear hs hx
      by_cases hq : q = 0
      · go_wp2_with (first
          | (at_lookup; refine wpList_lookup_own_int _ rfl _ _ 101 rfl 3 3 .i64 law3 ul45 Try.underlying3 (zero3 _) b n _ rfl HOr.out _ _ rfl (Maps.keyOf_int_mk Try.underlying3 HXW.out) ?_; intro cc hat hwc; have HCC : Hid (cc = q) := (Lib.hid ((HD.out.look hat).trans HQ.out.symm)); have hc0 : (cc != 0) = false := (ne_no (HCC.out.trans hq)); clear hat hwc)
          | go_in)
        go_roundw
        case rel => exact ⟨k + 1, m, lo, by omega, by go_num, HM.out, by omega, Lib.hid (by rw [HS.out, if_pos hq]; simp), HOT, HF2⟩
        case measure => show kn - ((k : Int) + 1).toNat < kn - (k : Int).toNat; omega
      · go_wp2_with (first
          | (at_lookup; refine wpList_lookup_own_int _ rfl _ _ 101 rfl 3 3 .i64 law3 ul45 Try.underlying3 (zero3 _) b n _ rfl HOr.out _ _ rfl (Maps.keyOf_int_mk Try.underlying3 HXW.out) ?_; intro cc hat hwc; have HCC : Hid (cc = q) := (Lib.hid ((HD.out.look hat).trans HQ.out.symm)); have hc0 : (cc != 0) = true := (ne_yes (fun z => hq (HCC.out.symm.trans z))); clear hat hwc)
          | (at_builtin; refine wpList_append_own _ rfl _ _ 54 rfl w1.heap.size 58 i0 (.agg #[.int .i64 0, .int .i64 0]) 2 16 Try.underlying54 hi hz0 hz1 hz2 rfl (by decide) _ lo.length (cellsT lo) rfl (World.ownsRow.alloc HOT.out _) ⟨_, 0, none⟩ 1 1 [.int .i64 x, .int .i64 cc] rfl rfl (cell_two_new _ _ _ _) (two_ints _ _) (by have := HM.out; unfold maxLen; omega) (by have := HM.out; omega) (by have := HF2.out.size; simp; omega) ?_; intro v' w3 hown hgrow _)
          | go_in)
        have HO3 := Lib.hid (OwnT.snoc hown)
        have HF3 : Hid (New w1 w3) := Lib.hid (New.appended HF2.out HOT.out hgrow)
        clear hown hgrow
        go_wp2
        go_roundw
        case rel => exact ⟨k + 1, m + 1, lo ++ [(x, cc)], by omega, by go_num, by simp [HM.out], by omega, Lib.hid (by rw [HS.out, if_neg hq, HCC.out]), HO3, HF3⟩
        case measure => show kn - ((k : Int) + 1).toNat < kn - (k : Int).toNat; omega
    · obtain rfl : k = kn := by omega
      go_wp2
      go_ret
      have e : ks.take k = ks := by rw [HKN.out]; exact List.take_length
      exact ⟨lo, by rw [HL.out, e]; exact form_is HD.out HU.out.1 HU.out.2, _, rfl, HOT.out.base0, HF.out⟩
theorem form_any (v : Value) (l : List Pl.T) (n : Nat) (w : World) (hw : Wk w v l n) (hn : n ≤ 1000000) : Calls Try.prog 36 #[v] w (GaveForm l w) :=
  (formO_any v l n w hw hn).mono fun _ _ ⟨m, hm, u, he, ho, hn⟩ => ⟨m, hm, u, he, ho.ts, hn⟩
end Go.Proofs.Ytcfpdeeipbekfaa
