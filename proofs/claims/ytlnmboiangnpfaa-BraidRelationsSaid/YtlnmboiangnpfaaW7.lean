/- Walks: words of a free group put behind one another. -/
import Derived.Test.YtlnmboiangnpfaaW6
namespace Go.Proofs.Ytlnmboiangnpfaa
open Go.RowKit

/- one letter behind a word -/
def pr (out : List Int) (a : Int) : List Int := if out.getLast? = some (-a) then out.dropLast else out ++ [a]
def prs (out w : List Int) : List Int := w.foldl pr out
theorem pr_cancel {out : List Int} {a : Int} (h : out.getLast? = some (-a)) : out = out.dropLast ++ [-a] := by
  obtain ⟨l, rfl⟩ := List.getLast?_eq_some_iff.1 h
  simp
theorem rd_snoc {l : List Int} {a : Int} (h : Bd.Rd l) (hne : l.getLast? ≠ some (-a)) : Bd.Rd (l ++ [a]) := by
  rcases Bd.red_snoc h a with h1 | ⟨v, hv, _⟩
  · rw [← h1]; exact Bd.rd_red _
  · exfalso; apply hne; rw [hv]; simp
theorem rd_dropLast : ∀ {l : List Int}, Bd.Rd l → Bd.Rd l.dropLast
  | [], _ => trivial
  | [_], _ => trivial
  | [_, _], _ => trivial
  | _ :: _ :: _ :: _, h => ⟨h.1, rd_dropLast h.2⟩
theorem rd_pr {out : List Int} {a : Int} (h : Bd.Rd out) : Bd.Rd (pr out a) := by
  unfold pr
  split
  · exact rd_dropLast h
  · next hne => exact rd_snoc h hne
theorem e_pr (out w : List Int) (a : Int) : Bd.E (pr out a ++ w) (out ++ a :: w) := by
  unfold pr
  split
  · next h =>
    rw [pr_cancel h]
    simp only [List.dropLast_concat, List.append_assoc]
    exact (Bd.e_cancel_in (by omega) _ _).symm
  · rw [List.append_assoc]; exact .refl _
theorem e_prs : ∀ (w out : List Int), Bd.E (prs out w) (out ++ w)
  | [], out => by rw [List.append_nil]; exact .refl _
  | a :: w, out => (e_prs w (pr out a)).trans (e_pr out w a)
theorem rd_prs : ∀ (w : List Int) {out : List Int}, Bd.Rd out → Bd.Rd (prs out w)
  | [], _, h => h
  | _ :: w, _, h => rd_prs w (rd_pr h)
theorem prs_red (w : List Int) : prs [] w = Bd.red w := by
  have h := e_prs w []
  have h2 := Bd.red_of_rd (rd_prs w (out := []) trivial)
  rw [← h2]; exact h
theorem prs_app (out u v : List Int) : prs out (u ++ v) = prs (prs out u) v := List.foldl_append
theorem pr_length (out : List Int) (a : Int) : (pr out a).length ≤ out.length + 1 := by
  unfold pr; split <;> simp
  omega
theorem prs_length : ∀ (w out : List Int), (prs out w).length ≤ out.length + w.length
  | [], _ => by simp [prs]
  | a :: w, out => by
    have h := prs_length w (pr out a)
    have := pr_length out a
    show (prs (pr out a) w).length ≤ _
    rw [List.length_cons]; omega
theorem prs_snoc (out w : List Int) (a : Int) : prs out (w ++ [a]) = pr (prs out w) a := by rw [prs_app]; rfl
theorem small_pr {out : List Int} {a : Int} (h : Small out) (ha : -100 ≤ a ∧ a ≤ 100) : Small (pr out a) := by
  unfold pr
  split
  · exact fun x hx => h x (List.mem_of_mem_take (by rwa [← List.dropLast_eq_take]))
  · intro x hx
    rcases List.mem_append.1 hx with hx | hx
    · exact h x hx
    · rw [List.mem_singleton] at hx; subst hx; exact ha
theorem small_prs : ∀ {w out : List Int}, Small w → Small out → Small (prs out w)
  | [], _, _, h => h
  | a :: w, _, hw, h => small_prs (w := w) (fun x hx => hw x (by simp [hx])) (small_pr h (hw a (by simp)))
theorem take_snoc {l : List Int} {k : Nat} (hk : k < l.length) : l.take (k + 1) = l.take k ++ [l.getD k 0] := by
  rw [List.take_succ_eq_append_getElem hk, List.getD_eq_getElem?_getD, List.getElem?_eq_getElem hk]; rfl

/- the slices of words in a row: word i lies at A i -/
structure WordsAt (w : World) (L : Nat) (ws : List (List Int)) (A : Nat → Option Addr) (C : Nat → Nat) : Prop where
  row : ∀ i, i < ws.length → w.cell? ⟨L, i, none⟩ = some (.slice (A i) (ws.getD i []).length (C i))
  ints : ∀ i, i < ws.length → IntsAt w (A i) (ws.getD i [])
theorem WordsAt.new {w w' : World} {L : Nat} {ws : List (List Int)} {A : Nat → Option Addr} {C : Nat → Nat} (h : WordsAt w L ws A C) (hn : New w w') : WordsAt w' L ws A C :=
  ⟨fun i hi => hn.cell (h.row i hi) (fun x => x), fun i hi => New.ints hn (h.ints i hi)⟩

/- a slice that the call owns -/
def Own (base : Nat) (w : World) (v : Value) (xs : List Int) : Prop := w.ownsRow base 3 1 v xs.length (ints xs)

theorem flatten_take {ws : List (List Int)} {k : Nat} (hk : k < ws.length) : (ws.take (k + 1)).flatten = (ws.take k).flatten ++ ws.getD k [] := by
  rw [List.take_succ_eq_append_getElem hk, List.flatten_append, List.getD_eq_getElem?_getD, List.getElem?_eq_getElem hk]; simp
theorem flatten_take_le {ws : List (List Int)} (k : Nat) : (ws.take k).flatten.length ≤ ws.flatten.length := by
  conv => rhs; rw [← List.take_append_drop k ws, List.flatten_append, List.length_append]
  omega
/- the shape of what is owned -/
theorem Own.nil {base : Nat} {w : World} {v : Value} (h : Own base w v []) : ∃ a c, v = .slice a 0 c := by
  rcases h.2 with ⟨rfl, _⟩ | ⟨g, cap, cur, rfl, _⟩
  · exact ⟨none, 0, rfl⟩
  · exact ⟨_, _, rfl⟩
theorem Own.last {base : Nat} {w : World} {v : Value} {d : List Int} {y : Int} (h : Own base w v (d ++ [y])) :
    ∃ g c t, Hid (t = d.length) ∧ v = .slice (some ⟨g, 0, none⟩) (t + 1) c ∧ base ≤ g ∧ Hid (t + 1 ≤ c ∧ c ≤ maxLen) ∧ w.cell? ⟨g, t, none⟩ = some (.int .i64 y) ∧ Hid (Own base w (.slice (some ⟨g, 0, none⟩) t c) d) ∧ Hid (w.ownsRow base 3 1 (.slice (some ⟨g, 0, none⟩) (t + 1) c) (t + 1) (ints (d ++ [y]))) := by
  have h' := h
  unfold Own at h
  rcases h.2 with ⟨rfl, h0⟩ | ⟨g, cap, cur, rfl, hb, hg, hn, hc, hs, ht⟩
  · simp at h0
  · have e : (d ++ [y]).length = d.length + 1 := by simp
    rw [e] at h hn
    refine ⟨g, cap, d.length, Lib.hid rfl, by rw [e], hb, Lib.hid ⟨hn, hc⟩, ?_, Lib.hid ?_, Lib.hid h⟩
    · have := World.ownsRow.cells h (g := g) rfl d.length (.int .i64 y) (by simp [ints])
      rwa [addr_add, Nat.zero_add] at this
    · refine ownsRow_pop (last := [.int .i64 y]) (by simp [ints]) ?_
      have e2 : ints (d ++ [y]) = ints d ++ [.int .i64 y] := by simp [ints]
      rwa [e2] at h

theorem New.appended {w wr w1 : World} {e : TypeId} {size : Nat} {v : Value} {n : Nat} {xs : List Value} {o : Obj} (hF : New w wr) (hO : wr.ownsRow w.heap.size e size v n xs) (hg : (wr.alloc o).grownBy w1 v.ownBlock) : New w w1 :=
  (Fr.alloc hF o).grown hg fun k ek => .inr (hO.lt k ek).1
theorem one_ints (y : Int) : ∀ u ∈ [Value.int .i64 y], u.oneCell' = true := by simp [Value.oneCell']

set_option maxHeartbeats 1000000 in
theorem product_any (L m c : Nat) (ws : List (List Int)) (A : Nat → Option Addr) (C : Nat → Nat) (w : World) (hm : m = ws.length) (hl : ws.length ≤ 10) (hw : WordsAt w L ws A C) (hlen : ws.flatten.length ≤ 4000000000) (hs : ∀ x ∈ ws, Small x) :
    Calls Try.prog 28 #[.slice (some ⟨L, 0, none⟩) m c] w (GaveInts (prs [] ws.flatten) w) := by
  subst hm
  have HW := Lib.hid hw
  have HS := Lib.hid hs
  have HL := Lib.hid hlen
  clear hw hs hlen
  obtain ⟨i0, hi, hz0, hz1, hz2⟩ := info_parts Try.info3
  go_enter Try.func28, Try.ntmps28
  go_wp2
  go_loopw [3, 5, 7, 8, 11] (fun v _ _ _ i wr => ∃ k : Nat, k ≤ ws.length ∧ i = .int .i64 k ∧ Hid (Own w.heap.size wr v (prs [] (ws.take k).flatten)) ∧ Hid (New w wr)) (fun _ _ _ _ i _ => ws.length - (intOf i).toNat)
  case atStart => exact ⟨0, by omega, rfl, Lib.hid (World.ownsRow_nil _ _ _ _), Lib.hid (Fr.refl _ _)⟩
  case round =>
    obtain ⟨k, hk, rfl, HO, HF⟩ := hrel
    by_cases hlt : k < ws.length
    · have hrow := (HW.out.new HF.out).row k hlt
      have HI := Lib.hid (HW.out.ints k hlt)
      obtain ⟨x, HX⟩ : ∃ x, Hid (x = ws.getD k []) := ⟨_, Lib.hid rfl⟩
      rw [← HX.out] at hrow HI
      obtain ⟨ak, HA⟩ : ∃ ak, Hid (ak = A k) := ⟨_, Lib.hid rfl⟩
      obtain ⟨ck, HC⟩ : ∃ ck, Hid (ck = C k) := ⟨_, Lib.hid rfl⟩
      rw [← HA.out, ← HC.out] at hrow
      rw [← HA.out] at HI
      have hflat : (ws.take k).flatten.length + x.length ≤ ws.flatten.length := by
        have h1 := flatten_take hlt
        have h2 := flatten_take_le (ws := ws) (k + 1)
        rw [h1, ← HX.out, List.length_append] at h2
        exact h2
      have hbound : (ws.take k).flatten.length + x.length ≤ 4000000000 := Nat.le_trans hflat HL.out
      clear hflat
      have hsm : Small x := by
        rw [HX.out, List.getD_eq_getElem?_getD, List.getElem?_eq_getElem hlt]
        exact HS.out _ (List.getElem_mem hlt)
      have HSM := Lib.hid hsm
      clear hsm
      have hp0 := prs_length (ws.take k).flatten []
      rw [List.length_nil, Nat.zero_add] at hp0
      obtain ⟨o0, HO0⟩ : ∃ o0, Hid (o0 = prs [] (ws.take k).flatten) := ⟨_, Lib.hid rfl⟩
      rw [← HO0.out] at HO hp0
      go_wp2
      go_loopw [3, 7, 8, 17] (fun v _ _ i wr => ∃ j : Nat, j ≤ x.length ∧ i = .int .i64 j ∧ Hid (Own w.heap.size wr v (prs o0 (x.take j))) ∧ Hid (New w wr)) (fun _ _ _ i _ => x.length - (intOf i).toNat)
      case atStart => exact ⟨0, by omega, rfl, HO, HF⟩
      case round =>
        obtain ⟨j, hj, rfl, HO', HF'⟩ := hrel
        by_cases hjl : j < x.length
        · obtain ⟨b, o, rfl, d1⟩ := (New.ints HF'.out HI.out).at hjl
          obtain ⟨y, HY⟩ : ∃ y, Hid (y = x.getD j 0) := ⟨_, Lib.hid rfl⟩
          have hb := HSM.out.get j
          rw [← HY.out] at d1 hb
          have HT := Lib.hid (take_snoc hjl)
          have hpl := prs_length (x.take j) o0
          have hpl2 := List.length_take_le j x
          obtain ⟨acc, HAc⟩ : ∃ acc, Hid (acc = prs o0 (x.take j)) := ⟨_, Lib.hid rfl⟩
          rw [← HAc.out] at HO' hpl
          have hnext : Hid (prs o0 (x.take (j + 1)) = pr acc y) := Lib.hid (by rw [HT.out, prs_snoc, ← HAc.out, ← HY.out])
          rcases List.eq_nil_or_concat acc with h0 | ⟨d, z, h0⟩
          · subst h0
            obtain ⟨a, c0, rfl⟩ := HO'.out.nil
            have HOv := Lib.hid HO'.out
            clear HO' hpl hpl2
            go_wp2_with (at_builtin; refine wpList_append_own _ rfl _ _ 22 rfl w.heap.size 3 i0 (.int .i64 0) 1 8 Try.underlying22 hi hz0 hz1 hz2 rfl (by decide) _ 0 [] rfl ?c0 ⟨_, 0, none⟩ 1 1 [.int .i64 y] rfl rfl ?c2 ?c3 ?c4 ?c5 ?c6 ?_)
            case c0 => exact World.ownsRow.alloc HOv.out _
            case c2 => exact cell_one_new _ _ _
            case c3 => exact one_ints y
            case c4 => unfold maxLen; omega
            case c5 => omega
            case c6 => have := HF'.out.size; simp; omega
            intro v' w1 hown hgrow _
            have hnew := Lib.hid (New.appended HF'.out HOv.out hgrow)
            have ho : Hid (Own w.heap.size w1 v' (prs o0 (x.take (j + 1)))) := by
              rw [hnext.out]
              have : pr [] y = [y] := by simp [pr]
              rw [this]
              exact Lib.hid hown
            clear hown hgrow
            go_wp2
            go_roundw
            case rel => exact ⟨j + 1, by omega, by go_num, ho, hnew⟩
            case measure => simp [intOf]; omega
          · rw [List.concat_eq_append] at h0
            subst h0
            obtain ⟨g, c0, t, HT2, rfl, hgB, HC0, hcell, HOd, HOa⟩ := HO'.out.last
            have hlen : (d ++ [z]).length = d.length + 1 := by simp
            have htb : t ≤ 4000000000 := by have := HT2.out; omega
            have hgetl : (d ++ [z]).getLast? = some z := by simp
            have HG := Lib.hid hgetl
            have HOv := Lib.hid HO'.out
            clear HO' hpl hpl2 hlen hgetl
            by_cases hz : z = -y
            · have e2 : (z == -y) = true := by rw [beq_iff_eq]; exact hz
              have HZ := Lib.hid hz
              clear hz
              have hcap : t ≤ c0 := by have := HC0.out; omega
              go_wp2
              go_roundw
              case rel =>
                refine ⟨j + 1, by omega, by go_num, ?_, HF'⟩
                rw [hnext.out]
                have : pr (d ++ [z]) y = d := by unfold pr; rw [HG.out, if_pos (by rw [HZ.out])]; simp
                rw [this]
                have ht := HT2.out
                subst ht
                exact HOd
              case measure => simp [intOf]; omega
            · have e2 : (z == -y) = false := by rw [beq_eq_false_iff_ne]; exact hz
              have HZ := Lib.hid hz
              clear hz
              go_wp2_with (at_builtin; refine wpList_append_own _ rfl _ _ 22 rfl w.heap.size 3 i0 (.int .i64 0) 1 8 Try.underlying22 hi hz0 hz1 hz2 rfl (by decide) _ (t + 1) (ints (d ++ [z])) rfl ?d0 ⟨_, 0, none⟩ 1 1 [.int .i64 y] rfl rfl ?d2 ?d3 ?d4 ?d5 ?d6 ?_)
              case d0 => exact World.ownsRow.alloc HOa.out _
              case d2 => exact cell_one_new _ _ _
              case d3 => exact one_ints y
              case d4 => unfold maxLen; omega
              case d5 => omega
              case d6 => have := HF'.out.size; simp; omega
              intro v' w1 hown hgrow _
              have hnew := Lib.hid (New.appended HF'.out HOa.out hgrow)
              have ho : Hid (Own w.heap.size w1 v' (prs o0 (x.take (j + 1)))) := by
                rw [hnext.out]
                have : pr (d ++ [z]) y = d ++ [z] ++ [y] := by unfold pr; rw [HG.out, if_neg (by intro e; exact HZ.out (Option.some.inj e))]
                rw [this]
                refine Lib.hid ?_
                unfold Own
                have e3 : (d ++ [z] ++ [y]).length = t + 1 + 1 := by have := HT2.out; simp; omega
                rw [e3]
                have e4 : ints (d ++ [z] ++ [y]) = ints (d ++ [z]) ++ [.int .i64 y] := by simp [ints]
                rw [e4]
                exact hown
              clear hown hgrow
              go_wp2
              go_roundw
              case rel => exact ⟨j + 1, by omega, by go_num, ho, hnew⟩
              case measure => simp [intOf]; omega
        · have e1 : x.take j = x := List.take_of_length_le (by omega)
          rw [e1] at HO'
          have hnx : Hid (prs [] (ws.take (k + 1)).flatten = prs o0 x) := Lib.hid (by rw [flatten_take hlt, prs_app, ← HO0.out, ← HX.out])
          clear e1
          go_wp2
          go_roundw
          case rel => exact ⟨k + 1, by omega, by go_num, by rw [hnx.out]; exact HO', HF'⟩
          case measure => simp [intOf]; omega
    · go_wp2
      go_ret
      have e : ws.take k = ws := List.take_of_length_le (by omega)
      rw [e] at HO
      obtain ⟨a', c', rfl, h1, h2⟩ := IntsAt.of_owns HO.out
      exact ⟨a', c', rfl, h1, h2, HF.out⟩
end Go.Proofs.Ytlnmboiangnpfaa
