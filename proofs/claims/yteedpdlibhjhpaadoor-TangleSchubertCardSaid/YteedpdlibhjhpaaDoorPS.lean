/- Walks: the keys of a map, sorted; Form. -/
import Derived.Shelf.AbstractIn
import Derived.Test.YteedpdlibhjhpaaDoorP7
/- Walks: the keys of a map, sorted; Form. -/
namespace Go.Proofs.YteedpdlibhjhpaaDoor
open Go.RowKit Go.Maps Go.Sort Go.Shelf

theorem sortsA (m : Nat) : AnyZI.SortsIn Tryd.prog Tryd.sortedA_ren Fence.wide m :=
  ⟨fun blk off cap ss W hH hblk hsz => callsIn_wide.2 (AnyM.slices_Sort_int Tryd.sortA blk off cap ss W hH hblk hsz),
   fun p cap W => callsIn_wide.2 (AnyM.slices_Sort_int_none Tryd.sortA p cap W)⟩
theorem keysC_any (mb : Option Nat) (W : World) : Calls Tryd.prog 34 #[.map mb] W fun e w' => e = .returned (.func (.func 48) #[] #[.pointer (some ⟨W.heap.size, 0, none⟩)]) ∧ w' = W.alloc (.cells #[.map mb] 53) :=
  (callsIn_wide (n := 5)).1 (AnyZI.keys_in Tryd.keysA Fence.wide 5 trivial rfl mb W)
def Sorted (D : DataW Unit) (w : World) (e : Ending) (w' : World) : Prop :=
  ∃ (v : Value) (ss : List Int), e = .returned v ∧ ss.Perm (intKeys D) ∧ w'.ownsRow w.heap.size 3 1 v ss.length ((ss.mergeSort (fun x y => decide (x ≤ y))).map encZ) ∧ Below w.heap.size w w'
theorem sortedC_any (b nn : Nat) (D0 : DataW Unit) (w : World) (hown : OM w b nn D0) (hmax : Maps.size D0 ≤ maxLen) (hbytes : Maps.size D0 * 8 ≤ 140737488355328) :
    Calls Tryd.prog 33 #[.func (.func 48) #[] #[.pointer (some ⟨w.heap.size, 0, none⟩)]] (w.alloc (.cells #[.map (some b)] 53)) (Sorted D0 (w.alloc (.cells #[.map (some b)] 53))) := by
  have hbl := hown.lt
  have hseq : SeqGives Fence.wide 2 Tryd.prog 48 #[.pointer (some ⟨w.heap.size, 0, none⟩)] encZ (fun ss => ss.Perm (intKeys D0)) (Maps.size D0) (w.alloc (.cells #[.map (some b)] 53)) :=
    AnyZI.keys_gives (ρ := Tryd.keysA_ren) { Tryd.keysA with } Fence.wide _ trivial rfl (by omega) w.heap.size b nn D0 _ (by simp) (by simp) (by
      obtain ⟨es, clock, hb, Ft, hs, hD⟩ := hown
      exact ⟨es, clock, (Below.heap_alloc _ _ b hbl).trans hb, Ft, hs, hD⟩)
  have cS := AnyZI.sorted_in Tryd.sortedA Fence.wide 5 trivial trivial trivial trivial rfl (by omega) (sortsA _) (enters_of Tryd.func47 (by kernel_rfl) rfl) 48 #[.pointer (some ⟨w.heap.size, 0, none⟩)] trivial (enters_of Tryd.func48 (by kernel_rfl) rfl) _ _ hmax hbytes _ hseq
  change CallsIn _ _ Tryd.prog 33 _ _ _ at cS
  refine ((callsIn_wide (n := 5)).1 cS).mono ?_
  rintro e w' ⟨v, ss, rfl, hS, hrow, hnil, hb⟩
  exact ⟨v, ss, rfl, hS, hrow, hb⟩

theorem keys_facts {w : World} {b n : Nat} {D : DataW Unit} (ho : OM w b n D) : (intKeys D).Nodup ∧ (∀ x, x ∈ intKeys D ↔ Maps.has D (.int .i64 x) = true) ∧ (intKeys D).length = Maps.size D := by
  obtain ⟨es, hD, hpw, _⟩ := ho.entries law3
  obtain ⟨es', hD', hko⟩ := ho.keysOf
  obtain rfl : es = es' := by rw [hD] at hD'; simpa using hD'
  subst hD
  have hk : ∀ p ∈ es, ∃ x, p.1 = .int .i64 x := fun p hp => by obtain ⟨v, hv⟩ := hko p hp; obtain ⟨x, _, hx, _⟩ := Maps.keyOf_i64 Tryd.underlying3 hv; exact ⟨x, hx⟩
  refine ⟨?_, fun x => ?_, ?_⟩
  · show (es.map fun p => Go.intOf p.1).Nodup
    refine List.pairwise_map.2 (hpw.imp_of_mem fun {p q} hp' hq' hne e => hne ?_)
    obtain ⟨a, ha⟩ := hk p hp'
    obtain ⟨b, hb⟩ := hk q hq'
    rw [ha, hb] at e ⊢
    exact congrArg _ e
  · rw [Maps.has_eq, List.any_eq_true]
    show x ∈ (es.map fun p => Go.intOf p.1) ↔ _
    rw [List.mem_map]
    constructor
    · rintro ⟨p, hp', rfl⟩
      obtain ⟨a, ha⟩ := hk p hp'
      exact ⟨p, hp', by rw [ha]; simp [Lit.sameKey, Go.intOf]⟩
    · rintro ⟨p, hp', hs⟩
      obtain ⟨a, ha⟩ := hk p hp'
      rw [ha] at hs
      exact ⟨p, hp', by rw [ha]; simpa [Lit.sameKey, Go.intOf] using hs⟩
  · show (es.map fun p => Go.intOf p.1).length = _
    rw [List.length_map, Maps.size_eq]
theorem up_of : ∀ {l : List Int}, l.Pairwise (fun a b => a ≤ b) → l.Nodup → Pl.Up l
  | [], _, _ => trivial
  | k :: l, hp, hn => by
    rw [List.pairwise_cons] at hp
    rw [List.nodup_cons] at hn
    exact ⟨fun x hx => by
      have h1 := hp.1 x hx
      have h2 : k ≠ x := fun e => hn.1 (e ▸ hx)
      omega, up_of hp.2 hn.2⟩
theorem up_sorted {D : DataW Unit} {w : World} {b n : Nat} (ho : OM w b n D) {ss : List Int} (hp : ss.Perm (intKeys D)) : Pl.Up (ss.mergeSort leI) ∧ ∀ x, x ∈ ss.mergeSort leI ↔ Maps.has D (.int .i64 x) = true := by
  have hf := keys_facts ho
  have tr : ∀ a b c : Int, leI a b = true → leI b c = true → leI a c = true := fun a b c h1 h2 => by simp only [leI, decide_eq_true_eq] at *; exact Int.le_trans h1 h2
  have to1 : ∀ a b : Int, (leI a b || leI b a) = true := fun a b => by simp only [leI, Bool.or_eq_true, decide_eq_true_eq]; exact Int.le_total a b
  have hq := (List.mergeSort_perm ss leI).trans hp
  refine ⟨up_of ?_ (hq.nodup_iff.2 hf.1), fun x => hq.mem_iff.trans (hf.2.1 x)⟩
  refine (List.pairwise_mergeSort tr to1 ss).imp fun h => ?_
  simpa [leI] using h
theorem form_is {D : DataW Unit} {l : List Pl.T} {ks : List Int} (hd : RD D l) (hu : Pl.Up ks) (hm : ∀ x, x ∈ ks ↔ Maps.has D (.int .i64 x) = true) : Pl.Is (Pl.ofMap (Pl.co l) ks) l := by
  refine ⟨Pl.ofMap_form hu, fun e => ?_⟩
  rw [Pl.ofMap_co e hu]
  by_cases h : e ∈ ks
  · rw [if_pos h]
  · rw [if_neg h]
    refine (hd.not_has ?_).symm
    rw [Bool.eq_false_iff]
    exact fun x => h ((hm e).2 x)
theorem ints_of_own {w : World} {base : Nat} {v : Value} {n : Nat} {ks : List Int} (h : w.ownsRow base 3 1 v n (ks.map encZ)) : ∃ a c, v = .slice a n c ∧ n = ks.length ∧ IntsAt w a ks := by
  have hl : ks.length = n := by have := h.1; rw [List.length_map] at this; omega
  rcases h.2 with ⟨rfl, hn⟩ | ⟨g, cap, cur, rfl, hb, hg, h1, h2, h3, h4⟩
  · have : ks = [] := List.eq_nil_of_length_eq_zero (by omega)
    subst this
    subst hn
    exact ⟨none, 0, rfl, rfl, .inl rfl⟩
  · refine ⟨_, _, rfl, hl.symm, .inr ⟨g, 0, rfl, fun i hi => ?_⟩⟩
    rw [cell_of_row w g (0 + i) cur 3 (0, 0) hg, Nat.zero_add, ← Array.getElem?_toList]
    have h5 : (cur.toList.take (n * 1))[i]? = (ks.map encZ)[i]? := by rw [h4]
    rw [List.getElem?_take_of_lt (by omega)] at h5
    rw [h5, List.getElem?_map, List.getElem?_eq_getElem hi, List.getD_eq_getElem?_getD, List.getElem?_eq_getElem hi]
    rfl
theorem ofMap_take (f : Int → Int) {ks : List Int} {k : Nat} (hk : k < ks.length) : Pl.ofMap f (ks.take (k + 1)) = Pl.ofMap f (ks.take k) ++ (if f (ks.getD k 0) = 0 then [] else [(ks.getD k 0, f (ks.getD k 0))]) := by
  rw [List.take_succ_eq_append_getElem hk, Pl.ofMap_app, List.getD_eq_getElem?_getD, List.getElem?_eq_getElem hk]
  rfl

theorem ne_no {a : Int} (h : a = 0) : (a != 0) = false := by rw [h]; rfl
theorem ne_yes {a : Int} (h : a ≠ 0) : (a != 0) = true := by rw [bne_iff_ne]; exact h
def GaveForm (l : List Pl.T) (w : World) (e : Ending) (w' : World) : Prop := ∃ m, Pl.Is m l ∧ GaveT m w e w'

set_option maxRecDepth 100000 in
set_option maxHeartbeats 1000000 in
theorem form_any (v : Value) (l : List Pl.T) (n : Nat) (w : World) (hw : Wk w v l n) (hn : n ≤ 1000000) :
    Calls Tryd.prog 22 #[v] w (GaveForm l w) := by
  obtain ⟨b, D, rfl, ho, hd⟩ := hw
  have hsz := ho.size
  have hc := sortedC_any b n D w ho (by unfold maxLen; omega) (by omega)
  have HO := Lib.hid ho
  have HD := Lib.hid hd
  have HC := Lib.hid hc
  have HK := Lib.hid (keys_facts ho)
  clear ho hd hc
  obtain ⟨wm, HWM⟩ : ∃ wm, Hid (wm = w.alloc (.cells #[.map (some b)] 53)) := ⟨_, Lib.hid rfl⟩
  have HFm : Hid (New w wm) := Lib.hid (by rw [HWM.out]; exact (Fr.refl _ _).alloc _)
  obtain ⟨i0, hi, hz0, hz1, hz2⟩ := info_parts info26
  go_enter Tryd.func22, Tryd.ntmps22
  go_wp2_with fail
  refine (keysC_any _ _).mono ?_
  rintro e w0 ⟨rfl, hw0⟩
  rw [← HWM.out] at hw0
  subst hw0
  go_wp2_with fail
  rw [← HWM.out] at HC
  refine HC.out.mono ?_
  rintro e w1 ⟨vs, ss, rfl, hp, hrow, hB⟩
  have hus := up_sorted HO.out hp
  have hrow' := hrow
  obtain ⟨ks, HKS⟩ : ∃ ks, Hid (ks = ss.mergeSort leI) := ⟨_, Lib.hid rfl⟩
  have hlen := List.length_mergeSort (le := leI) ss
  rw [← HKS.out] at hlen
  have hrow2 : w1.ownsRow w0.heap.size 3 1 vs ss.length (ks.map encZ) := by rw [HKS.out]; exact hrow
  obtain ⟨a, c, rfl, hkl, hi1⟩ := ints_of_own hrow2
  rw [← HKS.out] at hus
  obtain ⟨kn, HKN⟩ : ∃ kn, Hid (kn = ks.length) := ⟨_, Lib.hid rfl⟩
  rw [hkl, ← HKN.out]
  have hkn : kn ≤ 1000000 := by
    rw [HKN.out, ← hkl, hp.length_eq, HK.out.2.2]
    omega
  have HU := Lib.hid hus
  have HI := Lib.hid hi1
  have HF1 : Hid (New w w1) := Lib.hid (HFm.out.trans (Fr.ofBelow hB _))
  have HO1 := Lib.hid (New.om HF1.out HO.out)
  clear hus hi1 hB hrow hrow' hrow2 hlen hkl hp hsz
  go_wp2
  go_loopw [3, 5, 10] (fun v _ i wr => ∃ (k m : Nat) (lo : List Pl.T), k ≤ kn ∧ i = .int .i64 k ∧ lo.length = m ∧ m ≤ k ∧ Hid (lo = Pl.ofMap (Pl.co l) (ks.take k)) ∧ Hid (OwnT w1.heap.size wr v lo) ∧ Hid (New w1 wr)) (fun _ _ i _ => kn - (intOf i).toNat)
  case atStart => exact ⟨0, 0, [], by omega, rfl, rfl, by omega, Lib.hid (by rw [List.take_zero]; rfl), Lib.hid (OwnT.nil_ _ _), Lib.hid (Fr.refl _ _)⟩
  case round =>
    obtain ⟨k, m, lo, hk, rfl, hm, hmk, HL, HOT, HF2⟩ := hrel
    have HF : Hid (New w wr) := Lib.hid (HF1.out.trans HF2.out)
    have HM := Lib.hid hm
    clear hm
    by_cases hlt : k < kn
    · have hkl : k < ks.length := by have := HKN.out; omega
      obtain ⟨b1, o1, rfl, d1⟩ := (New.ints HF2.out HI.out).at hkl
      have hs := ofMap_take (Pl.co l) hkl
      obtain ⟨x, HX⟩ : ∃ x, Hid (x = ks.getD k 0) := ⟨_, Lib.hid rfl⟩
      have hx := intKeys_wf (H := Unit) HO.out Tryd.underlying3 x (by
        rw [(keys_facts HO.out).2.1, ← HU.out.2, HX.out, List.getD_eq_getElem?_getD, List.getElem?_eq_getElem hkl]
        exact List.getElem_mem hkl)
      rw [← HX.out, ← HL.out] at hs
      rw [← HX.out] at d1
      obtain ⟨q, HQ⟩ : ∃ q, Hid (q = Pl.co l x) := ⟨_, Lib.hid rfl⟩
      rw [← HQ.out] at hs
      have HS := Lib.hid hs
      have HOr := Lib.hid (New.om HF.out HO.out)
      have HXW := Lib.hid hx
      clear hs hx
      by_cases hq : q = 0
      · go_wp2_with (first
          | (at_lookup; refine wpList_lookup_own_int _ rfl _ _ 53 rfl 3 3 .i64 law3 ul45 Tryd.underlying3 (zero3 _) b n _ rfl HOr.out _ _ rfl (Maps.keyOf_int_mk Tryd.underlying3 HXW.out) ?_; intro cc hat hwc; have HCC : Hid (cc = q) := (Lib.hid ((HD.out.look hat).trans HQ.out.symm)); have hc0 : (cc != 0) = false := (ne_no (HCC.out.trans hq)); clear hat hwc)
          | go_in)
        go_roundw
        case rel => exact ⟨k + 1, m, lo, by omega, by go_num, HM.out, by omega, Lib.hid (by rw [HS.out, if_pos hq]; simp), HOT, HF2⟩
        case measure => show kn - ((k : Int) + 1).toNat < kn - (k : Int).toNat; omega
      · go_wp2_with (first
          | (at_lookup; refine wpList_lookup_own_int _ rfl _ _ 53 rfl 3 3 .i64 law3 ul45 Tryd.underlying3 (zero3 _) b n _ rfl HOr.out _ _ rfl (Maps.keyOf_int_mk Tryd.underlying3 HXW.out) ?_; intro cc hat hwc; have HCC : Hid (cc = q) := (Lib.hid ((HD.out.look hat).trans HQ.out.symm)); have hc0 : (cc != 0) = true := (ne_yes (fun z => hq (HCC.out.symm.trans z))); clear hat hwc)
          | (at_builtin; refine wpList_append_own _ rfl _ _ 35 rfl w1.heap.size 58 i0 (.agg #[.int .i64 0, .int .i64 0]) 2 16 Tryd.underlying35 hi hz0 hz1 hz2 rfl (by decide) _ lo.length (cellsT lo) rfl (World.ownsRow.alloc HOT.out _) ⟨_, 0, none⟩ 1 1 [.int .i64 x, .int .i64 cc] rfl rfl (cell_two_new _ _ _ _) (two_ints _ _) (by have := HM.out; unfold maxLen; omega) (by have := HM.out; omega) (by have := HF2.out.size; simp; omega) ?_; intro v' w3 hown hgrow _)
          | go_in)
        have HO3 := Lib.hid (OwnT.snoc hown)
        have HF3 : Hid (New w1 w3) := Lib.hid (New.appended HF2.out HOT.out hgrow)
        clear hown hgrow
        go_wp2
        go_roundw
        case rel => exact ⟨k + 1, m + 1, lo ++ [(x, cc)], by omega, by go_num, by simp [HM.out], by omega, Lib.hid (by rw [HS.out, if_neg hq, HCC.out]), HO3, HF3⟩
        case measure => show kn - ((k : Int) + 1).toNat < kn - (k : Int).toNat; omega
    · obtain rfl : k = kn := by omega
      go_wp2
      go_ret
      have e : ks.take k = ks := by rw [HKN.out]; exact List.take_length
      exact ⟨lo, by rw [HL.out, e]; exact form_is HD.out HU.out.1 HU.out.2, _, rfl, HOT.out.ts, HF.out⟩
end Go.Proofs.YteedpdlibhjhpaaDoor

/- Walks: Shift of a map of coefficients. -/
namespace Go.Proofs.YteedpdlibhjhpaaDoor
open Go.RowKit

def sh (q s : Int) (l : List Pl.T) : List Pl.T := l.map fun t => (t.1 + q, s * t.2)
theorem sh_co (q s : Int) (l : List Pl.T) (e : Int) : Pl.co (sh q s l) e = s * Pl.co l (e - q) := by
  induction l with
  | nil => simp [sh, Pl.co_nil]
  | cons t l ih =>
    show Pl.co ((t.1 + q, s * t.2) :: sh q s l) e = _
    rw [Pl.co_cons, Pl.co_cons, ih, Int.mul_add]
    by_cases c : t.1 = e - q
    · rw [if_pos (show t.1 + q = e by omega), if_pos c]
    · rw [if_neg (show ¬ t.1 + q = e by omega), if_neg c]; simp
theorem sh_snoc (q s : Int) (l : List Pl.T) (x c : Int) : sh q s (l ++ [(x, c)]) = sh q s l ++ [(x + q, s * c)] := by simp [sh]
theorem sh_exps {q s : Int} {l l' : List Pl.T} (h : ∀ t ∈ l, ∃ u ∈ l', u.1 = t.1) : ∀ t ∈ sh q s l, ∃ u ∈ sh q s l', u.1 = t.1 := by
  intro t ht
  obtain ⟨v, hv, rfl⟩ := List.mem_map.1 ht
  obtain ⟨u, hu, e⟩ := h v hv
  exact ⟨(u.1 + q, s * u.2), List.mem_map.2 ⟨u, hu, rfl⟩, by simp only [e]⟩
theorem mul_bd {s c : Int} {A B : Nat} (h : -(A : Int) ≤ s ∧ s ≤ A) (k : -(B : Int) ≤ c ∧ c ≤ B) : -((A : Int) * B) ≤ s * c ∧ s * c ≤ (A : Int) * B := by
  have h1 : s.natAbs ≤ A := by omega
  have h2 : c.natAbs ≤ B := by omega
  have h3 := Nat.mul_le_mul h1 h2
  rw [← Int.natAbs_mul] at h3
  have h4 : ((A * B : Nat) : Int) = (A : Int) * B := by simp
  omega
set_option maxRecDepth 100000 in
set_option maxHeartbeats 1000000 in
theorem shiftW_any (va : Value) (q s : Int) (la : List Pl.T) (na : Nat) (w : World) (ha : Wk w va la na) (hs : -5000 ≤ s ∧ s ≤ 5000) (hq : -1000 ≤ q ∧ q ≤ 1000) (hn : na ≤ 1000000) (he : Exps 1000000000 la) (hz : Pl.size la ≤ 100000000000000) :
    Calls Tryd.prog 21 #[va, .int .i64 q, .int .i64 s] w (GaveW (sh q s la) na w) := by
  obtain ⟨b, D, rfl, ho, hd⟩ := ha
  have hlt := ho.lt
  have HO := Lib.hid ho
  have HD := Lib.hid hd
  have HE := Lib.hid he
  have HSS := Lib.hid hs
  have HS := Lib.hid hz
  have HZ := Lib.hid ho.size
  have s1 : -5000 ≤ s := hs.1
  have s2 : s ≤ 5000 := hs.2
  have q1 : -1000 ≤ q := hq.1
  have q2 : q ≤ 1000 := hq.2
  clear ho hd he hs hz hq
  have hmm := @run_makeMap Tryd.prog
  obtain ⟨B, HB⟩ : ∃ B, Hid (B = w.heap.size) := ⟨_, Lib.hid rfl⟩
  obtain ⟨wm, HWM⟩ : ∃ wm, Hid (wm = w.alloc (.map #[] 0)) := ⟨_, Lib.hid rfl⟩
  obtain ⟨r, HR⟩ : ∃ r, Hid (r = wm.heap.size) := ⟨_, Lib.hid rfl⟩
  have HFm : Hid (New w wm) := Lib.hid (by rw [HWM.out]; exact (Fr.refl _ _).alloc _)
  have HOm : Hid (OM wm b na D) := Lib.hid (New.om HFm.out HO.out)
  have HOB : Hid (OM wm B 0 (.map [])) := Lib.hid (by rw [HWM.out, HB.out]; exact World.ownsMap_made _ _ _ _)
  have hBr : B ≠ r := by
    rw [HR.out]
    have := HOB.out.lt
    omega
  have hb1 : b ≠ B := by rw [HB.out]; omega
  go_enter Tryd.func21, Tryd.ntmps21
  go_wp2_with (first
    | (at_range; rw [← HWM.out, ← HB.out]; refine wpList_range_own _ rfl _ 53 rfl 3 3 law3 ul45 _ b na _ rfl HOm.out ?_; intro w0 hrg0 hg0 hs0)
    | go_in)
  go_frame
  rw [← HR.out] at hrg0 hs0 ⊢
  have HF0 : Hid (New w w0) := Lib.hid (HFm.out.grown hg0 fun k ek => by cases ek)
  have HOB0 : Hid (OM w0 B 0 (.map [])) := Lib.hid (HOB.out.kept hg0 (by simp))
  have HR0 := Lib.hid (Rng.start HD.out hrg0)
  clear hrg0 hg0 hs0
  go_loopw [8, 9] (fun _ _ wr => ∃ (left : Lit → Bool) (cnt m : Nat) (Dout : DataW Unit) (done : List Pl.T), m + cnt ≤ na ∧ Hid (Rng wr b r na D la left cnt done) ∧ Hid (OM wr B m Dout) ∧ Hid (RD Dout (sh q s done)) ∧ Hid (New w wr))
    (fun _ _ wr => wr.rangeLeft b r)
  case atStart => exact ⟨_, _, 0, .map [], [], by have := HZ.out; omega, HR0, HOB0, Lib.hid RD.empty, HF0⟩
  case round =>
    obtain ⟨left, cnt, m, Dout, done, hm, HRg, HOo, HDo, HF⟩ := hrel
    go_wp2_with (first
      | (at_next; refine wpList_next_ranges_ii _ rfl _ rfl 3 3 .i64 .i64 law3 Tryd.underlying3 Tryd.underlying3 b r na _ _ _ rfl HRg.out.rg ?_ ?_)
      | go_in)
    · intro hc0 hl0
      have HL0 := Lib.hid hl0
      clear hl0
      go_wp2
      go_ret
      exact ⟨_, rfl, ⟨_, Dout, rfl, HOo.out.mono (by omega), HDo.out.congr (fun e => by rw [sh_co, sh_co, HRg.out.all HL0.out]) (sh_exps HRg.out.part.exps)⟩, HF.out⟩
    · intro x c w2 cnt1 hwx hwc hlx hat hrg1 hlt1 hg1 hs1 hen
      have HR1 : Hid (Rng w2 b r na D la (fun z => left z && !z.sameKey (.int .i64 x)) cnt1 (done ++ [(x, c)])) := Lib.hid (HRg.out.step HD.out hlx hat hrg1)
      have hc0 : Pl.co (sh q s done) (x + q) = 0 := by
        rw [sh_co, show x + q - q = x by omega, Pl.co_none fun t ht e => by
          have := HRg.out.part.gone t ht
          simp only [e] at this
          rw [hlx] at this
          cases this]
        simp
      have HO1 : Hid (OM w2 B m Dout) := Lib.hid (HOo.out.kept hg1 (by simpa using hBr))
      have HF1 : Hid (New w w2) := Lib.hid (HF.out.grown hg1 fun k ek => .inr (by cases ek; rw [HR.out]; exact HFm.out.size))
      obtain ⟨u, hu, hux⟩ := HR1.out.part.exps (x, c) (by simp)
      have hxe := HE.out u hu
      rw [hux] at hxe
      have x1 : -1000000000 ≤ x := hxe.1
      have x2 : x ≤ 1000000000 := hxe.2
      have hcb := (HD.out.at hat).1
      have hcl := Pl.co_le' HS.out x
      rw [← hcb] at hcl
      have c1 : -1000000000000000000 ≤ c := by omega
      have c2 : c ≤ 1000000000000000000 := by omega
      obtain ⟨p, HP⟩ : ∃ p, Hid (p = s * c) := ⟨_, Lib.hid rfl⟩
      have hpb : -(5000 * 100000000000000) ≤ p ∧ p ≤ 5000 * 100000000000000 := by rw [HP.out]; exact mul_bd HSS.out hcl
      have p1 : -1000000000000000000 ≤ p := by omega
      have p2 : p ≤ 1000000000000000000 := by omega
      have hw : wrap64 (c * s) = p := by rw [HP.out, Int.mul_comm]; exact IntWalk.wrap64_in _ (by rw [← HP.out]; omega)
      have HLT := Lib.hid hlt1
      have HC0 := Lib.hid hc0
      clear hwx hwc hlx hat hrg1 hg1 hs1 hu hux hxe hlt1 hcb hcl hpb hc0
      go_wp2_with (first
        | (at_mapUpdate; refine wpList_mapUpdate_own _ rfl _ _ _ 53 rfl 3 3 law3 ul45 _ B m _ rfl HO1.out (by unfold maxLen; omega) _ _ _ rfl rfl (Maps.keyOf_int_mk Tryd.underlying3 (wf64 (by omega))) _ [] (plainElem_int Tryd.underlying3 (wf64 (by omega))) ?_; intro w3 hown2 hg2; go_frame)
        | go_in)
      have HO2 := Lib.hid hown2
      have HR2 := Lib.hid (HR1.out.kept hg2 (by simpa using hb1) (by simpa using hBr.symm))
      have HF2 : Hid (New w w3) := Lib.hid (HF1.out.grown hg2 fun k ek => .inr (by cases ek; rw [HB.out]; exact Nat.le_refl _))
      clear hown2 hg2
      go_roundw
      case rel => exact ⟨_, cnt1, m + 1, _, _, by have := HLT.out; omega, HR2, HO2, Lib.hid (by rw [sh_snoc]; exact RD.put HDo.out (by rw [HC0.out, hw, HP.out]; omega)), HF2⟩
      case measure => rw [HR2.out.rg.left_eq, HRg.out.rg.left_eq]; exact HLT.out
end Go.Proofs.YteedpdlibhjhpaaDoor
