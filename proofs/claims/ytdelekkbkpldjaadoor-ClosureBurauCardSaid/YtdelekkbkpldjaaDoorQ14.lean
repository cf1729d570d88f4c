/- Walks: Unit; and how large what it is handed is. -/
import Derived.Test.YtdelekkbkpldjaaDoorP16
namespace Go.Proofs.YtdelekkbkpldjaaDoor
open Go.RowKit Go.Maps

set_option maxHeartbeats 1000000 in
theorem unit_any (v : Value) (m : List Pl.T) (w : World) (hx : Ts w v m) (hm : Pl.May m) :
    Calls Tryd.prog 17 #[v] w (fun e w' => ∃ v' a, e = .returned (.tuple #[v', .int .i64 0]) ∧ Ts w' v' a ∧ New w w' ∧ NrmOf m a) := by
  have HX := Lib.hid hx
  have HM := Lib.hid hm
  clear hx hm
  go_enter Tryd.func17, Tryd.ntmps17
  go_wp2_with fail
  refine (may_any _ m _ HX.out HM.out).mono ?_
  rintro e w1 ⟨rfl, hn1⟩
  have HN1 := Lib.hid hn1
  clear hn1
  go_wp2_with fail
  refine (normal_any v m _ (New.ts HN1.out HX.out) HM.out.2.1 (by have := HM.out.1; omega) (fun t ht => (HM.out.2.2 t ht).1) (by have := may_size HM.out; omega)).mono ?_
  rintro e w2 ⟨v2, a, rfl, hts, hn2, ha⟩
  have HN2 : Hid (New w w2) := Lib.hid (HN1.out.trans hn2)
  have HTS := Lib.hid hts
  have HA := Lib.hid ha
  clear hts hn2 ha
  go_wp2
  go_ret2
  exact ⟨v2, a, rfl, HTS.out, HN2.out, HA.out⟩
theorem form_sh {q s : Int} (hs : s = 1 ∨ s = -1) : ∀ {l : List Pl.T}, Pl.Form l → Pl.Form (l.map fun u => (u.1 + q, s * u.2))
  | [], _ => trivial
  | u :: l, hl => by
    refine ⟨?_, fun v hv => ?_, form_sh hs hl.2.2⟩
    · have := hl.1
      show s * u.2 ≠ 0
      rcases hs with e | e <;> rw [e] <;> omega
    · obtain ⟨x, hx, rfl⟩ := List.mem_map.1 hv
      have := hl.2.1 x hx
      show u.1 + q < x.1 + q
      omega
/- what is one up to a unit has one size -/
theorem nrm_size {d a : List Pl.T} (hd : Pl.Form d) (ha : Pl.Nrm a) (h : ∀ t : Rat, t ≠ 0 → Kn.Eu t (Pl.ev t d) (Pl.ev t a)) : Pl.size d = Pl.size a := by
  match d, hd with
  | [], _ =>
    have e : a = [] := Kn.nrm_eu ha ⟨trivial, .inl rfl⟩ fun t ht => (h t ht).symm ht
    rw [e]
  | (e, c) :: r, hd =>
    have hs : (if c < 0 then (-1 : Int) else 1) = 1 ∨ (if c < 0 then (-1 : Int) else 1) = -1 := by split; exact .inr rfl; exact .inl rfl
    have hf := form_sh (q := -e) hs hd
    obtain ⟨n1, n2, n3⟩ := Kn.norm_of (a := ((e, c) :: r).map fun u => (u.1 + -e, (if c < 0 then -1 else 1) * u.2)) hd rfl ⟨hf, fun _ => rfl⟩
    have e1 := Kn.nrm_eu n1 ha fun t ht => (n3 t ht).trans ht (h t ht)
    rw [← n2, e1]
end Go.Proofs.YtdelekkbkpldjaaDoor
