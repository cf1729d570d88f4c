/- Walks: text. -/
import Derived.Test.YtanidlncijkmnaaDoorW4
import Derived.Deep.RegionHeld3
import Derived.IntWalk
namespace Go.Proofs.YtanidlncijkmnaaDoor
open Go.RowKit

theorem sm_at {l : List Pl.T} (h : Tx.Sm l) {k : Nat} (hk : k < l.length) : (-9 ≤ (l.getD k (0, 0)).1 ∧ (l.getD k (0, 0)).1 ≤ 9) ∧ (l.getD k (0, 0)).2 ≠ 0 ∧ -9 ≤ (l.getD k (0, 0)).2 ∧ (l.getD k (0, 0)).2 ≤ 9 := by
  rw [List.getD_eq_getElem?_getD, List.getElem?_eq_getElem hk]
  exact h _ (List.getElem_mem hk)

theorem itoa_max (x : Int) (n : Nat) (hx : x = n) (h : n ≤ 9) (w : World) : Calls Tryd.prog 14 #[.int .i64 x] w fun e w' => ∃ b : ByteArray, e = .returned (.string b) ∧ Hid (b.data.toList = Tx.dig n) ∧ b.size ≤ 1 ∧ w' = w := by
  subst hx
  refine (itoa_dig n h w).mono ?_
  rintro e w' ⟨rfl, rfl⟩
  exact ⟨_, rfl, Lib.hid rfl, Nat.le_refl _, rfl⟩
theorem txt_size {l : List Pl.T} {s : ByteArray} {k : Nat} (h : s.data.toList = Tx.txt 0 (l.take k)) : s.size ≤ 9 * k := by
  rw [Lib.size_eq, h]
  have := Tx.txt_len 0 (l.take k)
  rw [List.length_take] at this
  omega
theorem leadA {q : Nat} (h : 1 ≤ q) : Tx.lead 0 (-(q : Int)) = [45] := by unfold Tx.lead; rw [if_pos rfl, if_pos (by omega)]
theorem leadB {q : Nat} : Tx.lead 0 (q : Int) = [] := by unfold Tx.lead; rw [if_pos rfl, if_neg (by omega)]
theorem leadC {k q : Nat} (hk : ¬ k = 0) (h : 1 ≤ q) : Tx.lead k (-(q : Int)) = [32, 45, 32] := by unfold Tx.lead; rw [if_neg hk, if_pos (by omega)]
theorem leadD {k q : Nat} (hk : ¬ k = 0) : Tx.lead k (q : Int) = [32, 43, 32] := by unfold Tx.lead; rw [if_neg hk, if_neg (by omega)]
theorem body0 (n : Nat) : Tx.body 0 n = Tx.dig n := rfl
theorem body1 {e : Int} (h : ¬ e = 0) : Tx.body e 1 = Tx.pow e := by unfold Tx.body; rw [if_neg h, if_pos rfl]
theorem body2 {e : Int} {n : Nat} (h : ¬ e = 0) (h1 : ¬ n = 1) : Tx.body e n = Tx.dig n ++ [42] ++ Tx.pow e := by unfold Tx.body; rw [if_neg h, if_neg h1]

set_option maxRecDepth 100000 in
set_option maxHeartbeats 4000000 in
theorem text_any (v : Value) (l : List Pl.T) (w : World) (hx : Ts w v l) (hs : Tx.Sm l) (hl : l.length ≤ 64) (he : Env w) :
    Calls Tryd.prog 10 #[v] w (GaveS (Tx.full l) w) := by
  obtain ⟨a, c, rfl, hx⟩ := hx
  obtain ⟨n, hn⟩ : ∃ n, n = l.length := ⟨_, rfl⟩
  rw [← hn] at hl ⊢
  have HN := Lib.hid hn
  have HX := Lib.hid hx
  have HS := Lib.hid hs
  have HE := Lib.hid he
  clear hn hx hs he
  by_cases h0 : n = 0
  · subst h0
    go_enter Tryd.func10, Tryd.ntmps10
    go_wp2
    go_ret
    exact ⟨_, rfl, Lib.hid (by have : l = [] := List.eq_nil_of_length_eq_zero HN.out.symm; subst this; rfl), Lib.hid (Fr.refl _ _)⟩
  · go_enter Tryd.func10, Tryd.ntmps10
    have h0' : ((n : Int) == 0) = false := by simpa using h0
    go_wp2
    go_loopw [3, 12] (fun s i wr => ∃ (k : Nat) (b : ByteArray), k ≤ n ∧ i = .int .i64 k ∧ s = .string b ∧ b.size ≤ 9 * k ∧ Hid (b.data.toList = Tx.txt 0 (l.take k)) ∧ Hid (New w wr)) (fun _ i _ => n - (intOf i).toNat)
    case atStart => exact ⟨0, ⟨#[]⟩, by omega, rfl, rfl, by decide, Lib.hid (by rfl), Lib.hid (Fr.refl _ _)⟩
    case round =>
      obtain ⟨k, b, hk, rfl, rfl, hbs, HB, HF⟩ := hrel
      by_cases hlt : k < n
      · obtain ⟨bb, o, rfl, d1, d2⟩ := (New.terms HF.out HX.out).at (k := k) (by have := HN.out; omega)
        have hb := sm_at HS.out (k := k) (by rw [← HN.out]; exact hlt)
        have HT := Lib.hid (Tx.txt_take (l := l) (k := k) (by rw [← HN.out]; exact hlt))
        obtain ⟨e1, H1⟩ : ∃ e, Hid (e = (l.getD k (0, 0)).1) := ⟨_, Lib.hid rfl⟩
        obtain ⟨e2, H2⟩ : ∃ e, Hid (e = (l.getD k (0, 0)).2) := ⟨_, Lib.hid rfl⟩
        rw [← H1.out] at d1 hb
        rw [← H2.out] at d2 hb
        have HT' : Hid (Tx.txt 0 (l.take (k + 1)) = b.data.toList ++ (Tx.lead k e2 ++ Tx.body e1 e2.natAbs)) := Lib.hid (by rw [HT.out, HB.out, H1.out, H2.out])
        clear HT
        obtain ⟨⟨b1, b2⟩, b3, b4, b5⟩ := hb
        have i1 : (0 : Int) ≤ (k : Int) := by omega
        have i2 : (k : Int) < (n : Int) := by omega
        obtain ⟨q, hq⟩ : ∃ q : Nat, q = e2.natAbs := ⟨_, rfl⟩
        have q1 : 1 ≤ q := by omega
        have q2 : q ≤ 9 := by omega
        by_cases c0 : k = 0
        · subst c0
          simp only [Nat.zero_mul, Nat.add_zero] at d1 d2
          by_cases c1 : e2 < 0
          · skip
            obtain rfl : e2 = -(q : Int) := by omega
            clear hq
            have hng : (0 : Int) < q := by omega
            have HEV : Hid (Env (wr.alloc (.cells #[.int .i64 e1, .int .i64 (-(q : Int))] 31))) := Lib.hid (New.env (Fr.alloc HF.out _) HE.out)
            by_cases c2 : e1 = 0
            · subst c2
              go_wp2_with fail
              refine (itoa_max _ q (by omega) q2 _).mono ?_
              rintro e w' ⟨db, rfl, hdb, hz, rfl⟩
              go_wp2
              have HR : Hid ((((b ++ ⟨#[45]⟩) ++ db : ByteArray)).data.toList = Tx.txt 0 (l.take (0 + 1))) := Lib.hid (by rw [HT'.out]; rw [leadA q1, Int.natAbs_neg, Int.natAbs_natCast, body0]; simp only [app_toList, hdb.out, List.append_assoc])
              go_roundw
              case rel => exact ⟨1, _, by omega, by go_num, rfl, txt_size HR.out, HR, Lib.hid (Fr.alloc HF.out _)⟩
              case measure => simp [intOf]; omega
            · by_cases c3 : q = 1
              · subst c3
                go_wp2_with fail
                refine (power_any e1 b1 b2 _ HEV.out).mono ?_
                rintro e wu ⟨pb, rfl, hpb, HNU⟩
                have hps : pb.size ≤ 4 := by rw [Lib.size_eq, hpb.out]; exact Tx.pow_len e1
                go_wp2
                have HR : Hid ((((b ++ ⟨#[45]⟩) ++ pb : ByteArray)).data.toList = Tx.txt 0 (l.take (0 + 1))) := Lib.hid (by rw [HT'.out]; rw [leadA q1, Int.natAbs_neg, Int.natAbs_natCast, body1 c2]; simp only [app_toList, hpb.out, List.append_assoc])
                go_roundw
                case rel => exact ⟨1, _, by omega, by go_num, rfl, txt_size HR.out, HR, Lib.hid ((Fr.alloc HF.out _).trans HNU.out)⟩
                case measure => simp [intOf]; omega
              · have c3' : ¬ (q : Int) = 1 := by omega
                have hc := cell_two_new wr (.int .i64 e1) (.int .i64 (-(q : Int))) 31 0 _ rfl
                simp only [Addr.add, Nat.zero_add] at hc
                go_wp2
                go_region_held3 (fun w' => w'.cell? ⟨wr.heap.size, 0, none⟩ = some (.int .i64 e1)) (first | assumption | go_keep)
                  (first
                    | (go_at_call 14; refine (itoa_max _ q (by omega) q2 _).mono ?_; rintro e w' ⟨db, rfl, hdb, hz, rfl⟩; have z1 : (9223372036854775807 < db.size + 1) = False := eq_false (by omega))
                    | (go_at_call 15; refine (power_any e1 b1 b2 _ (New.env (Fr.refl _ _).drew HEV.out)).mono ?_; rintro e wu ⟨pb, rfl, hpb, hnw⟩; have hps : pb.size ≤ 4 := (by rw [Lib.size_eq, hpb.out]; exact Tx.pow_len e1); have z2 : (9223372036854775807 < db.size + 1 + pb.size) = False := eq_false (by omega); have z3 : (9223372036854775807 < (b.size + 1) + (db.size + 1 + pb.size)) = False := eq_false (by omega); have HNU : Hid (New (wr.alloc (.cells #[.int .i64 e1, .int .i64 (-(q : Int))] 31)) wu) := Lib.hid ((Fr.refl _ _).drew.trans hnw.out); have hks : wu.cell? ⟨wr.heap.size, 0, none⟩ = some (.int .i64 e1) := hnw.out.cell hc (fun x => x); clear hnw))
                all_goals
                  go_wp2
                  have HR : Hid ((((b ++ ⟨#[45]⟩) ++ (db ++ ⟨#[42]⟩ ++ pb) : ByteArray)).data.toList = Tx.txt 0 (l.take (0 + 1))) := Lib.hid (by rw [HT'.out]; rw [leadA q1, Int.natAbs_neg, Int.natAbs_natCast, body2 c2 c3]; simp only [app_toList, hpb.out, hdb.out, List.append_assoc])
                  go_roundw
                  case rel => exact ⟨1, _, by omega, by go_num, rfl, txt_size HR.out, HR, Lib.hid ((Fr.alloc HF.out _).trans HNU.out)⟩
                  case measure => simp [intOf]; omega
          · skip
            obtain rfl : e2 = (q : Int) := by omega
            clear hq
            have hng : ¬ (q : Int) < 0 := by omega
            have HEV : Hid (Env (wr.alloc (.cells #[.int .i64 e1, .int .i64 ((q : Int))] 31))) := Lib.hid (New.env (Fr.alloc HF.out _) HE.out)
            by_cases c2 : e1 = 0
            · subst c2
              go_wp2_with fail
              refine (itoa_max _ q (by omega) q2 _).mono ?_
              rintro e w' ⟨db, rfl, hdb, hz, rfl⟩
              go_wp2
              have HR : Hid (((b ++ db : ByteArray)).data.toList = Tx.txt 0 (l.take (0 + 1))) := Lib.hid (by rw [HT'.out]; rw [leadB, Int.natAbs_natCast, body0]; simp only [app_toList, hdb.out, List.nil_append])
              go_roundw
              case rel => exact ⟨1, _, by omega, by go_num, rfl, txt_size HR.out, HR, Lib.hid (Fr.alloc HF.out _)⟩
              case measure => simp [intOf]; omega
            · by_cases c3 : q = 1
              · subst c3
                go_wp2_with fail
                refine (power_any e1 b1 b2 _ HEV.out).mono ?_
                rintro e wu ⟨pb, rfl, hpb, HNU⟩
                have hps : pb.size ≤ 4 := by rw [Lib.size_eq, hpb.out]; exact Tx.pow_len e1
                go_wp2
                have HR : Hid (((b ++ pb : ByteArray)).data.toList = Tx.txt 0 (l.take (0 + 1))) := Lib.hid (by rw [HT'.out]; rw [leadB, Int.natAbs_natCast, body1 c2]; simp only [app_toList, hpb.out, List.nil_append])
                go_roundw
                case rel => exact ⟨1, _, by omega, by go_num, rfl, txt_size HR.out, HR, Lib.hid ((Fr.alloc HF.out _).trans HNU.out)⟩
                case measure => simp [intOf]; omega
              · have c3' : ¬ (q : Int) = 1 := by omega
                have hc := cell_two_new wr (.int .i64 e1) (.int .i64 ((q : Int))) 31 0 _ rfl
                simp only [Addr.add, Nat.zero_add] at hc
                go_wp2
                go_region_held3 (fun w' => w'.cell? ⟨wr.heap.size, 0, none⟩ = some (.int .i64 e1)) (first | assumption | go_keep)
                  (first
                    | (go_at_call 14; refine (itoa_max _ q (by omega) q2 _).mono ?_; rintro e w' ⟨db, rfl, hdb, hz, rfl⟩; have z1 : (9223372036854775807 < db.size + 1) = False := eq_false (by omega))
                    | (go_at_call 15; refine (power_any e1 b1 b2 _ (New.env (Fr.refl _ _).drew HEV.out)).mono ?_; rintro e wu ⟨pb, rfl, hpb, hnw⟩; have hps : pb.size ≤ 4 := (by rw [Lib.size_eq, hpb.out]; exact Tx.pow_len e1); have z2 : (9223372036854775807 < db.size + 1 + pb.size) = False := eq_false (by omega); have z3 : (9223372036854775807 < b.size + (db.size + 1 + pb.size)) = False := eq_false (by omega); have HNU : Hid (New (wr.alloc (.cells #[.int .i64 e1, .int .i64 ((q : Int))] 31)) wu) := Lib.hid ((Fr.refl _ _).drew.trans hnw.out); have hks : wu.cell? ⟨wr.heap.size, 0, none⟩ = some (.int .i64 e1) := hnw.out.cell hc (fun x => x); clear hnw))
                all_goals
                  go_wp2
                  have HR : Hid (((b ++ (db ++ ⟨#[42]⟩ ++ pb) : ByteArray)).data.toList = Tx.txt 0 (l.take (0 + 1))) := Lib.hid (by rw [HT'.out]; rw [leadB, Int.natAbs_natCast, body2 c2 c3]; simp only [app_toList, hpb.out, hdb.out, List.nil_append, List.append_assoc])
                  go_roundw
                  case rel => exact ⟨1, _, by omega, by go_num, rfl, txt_size HR.out, HR, Lib.hid ((Fr.alloc HF.out _).trans HNU.out)⟩
                  case measure => simp [intOf]; omega
        · have c0' : ¬ (k : Int) = 0 := by omega
          by_cases c1 : e2 < 0
          · skip
            obtain rfl : e2 = -(q : Int) := by omega
            clear hq
            have hng : (0 : Int) < q := by omega
            have HEV : Hid (Env (wr.alloc (.cells #[.int .i64 e1, .int .i64 (-(q : Int))] 31))) := Lib.hid (New.env (Fr.alloc HF.out _) HE.out)
            by_cases c2 : e1 = 0
            · subst c2
              go_wp2_with fail
              refine (itoa_max _ q (by omega) q2 _).mono ?_
              rintro e w' ⟨db, rfl, hdb, hz, rfl⟩
              go_wp2
              have HR : Hid ((((b ++ ⟨#[32, 45, 32]⟩) ++ db : ByteArray)).data.toList = Tx.txt 0 (l.take (k + 1))) := Lib.hid (by rw [HT'.out]; rw [leadC c0 q1, Int.natAbs_neg, Int.natAbs_natCast, body0]; simp only [app_toList, hdb.out, List.append_assoc])
              go_roundw
              case rel => exact ⟨k + 1, _, by omega, by go_num, rfl, txt_size HR.out, HR, Lib.hid (Fr.alloc HF.out _)⟩
              case measure => simp [intOf]; omega
            · by_cases c3 : q = 1
              · subst c3
                go_wp2_with fail
                refine (power_any e1 b1 b2 _ HEV.out).mono ?_
                rintro e wu ⟨pb, rfl, hpb, HNU⟩
                have hps : pb.size ≤ 4 := by rw [Lib.size_eq, hpb.out]; exact Tx.pow_len e1
                go_wp2
                have HR : Hid ((((b ++ ⟨#[32, 45, 32]⟩) ++ pb : ByteArray)).data.toList = Tx.txt 0 (l.take (k + 1))) := Lib.hid (by rw [HT'.out]; rw [leadC c0 q1, Int.natAbs_neg, Int.natAbs_natCast, body1 c2]; simp only [app_toList, hpb.out, List.append_assoc])
                go_roundw
                case rel => exact ⟨k + 1, _, by omega, by go_num, rfl, txt_size HR.out, HR, Lib.hid ((Fr.alloc HF.out _).trans HNU.out)⟩
                case measure => simp [intOf]; omega
              · have c3' : ¬ (q : Int) = 1 := by omega
                have hc := cell_two_new wr (.int .i64 e1) (.int .i64 (-(q : Int))) 31 0 _ rfl
                simp only [Addr.add, Nat.zero_add] at hc
                go_wp2
                go_region_held3 (fun w' => w'.cell? ⟨wr.heap.size, 0, none⟩ = some (.int .i64 e1)) (first | assumption | go_keep)
                  (first
                    | (go_at_call 14; refine (itoa_max _ q (by omega) q2 _).mono ?_; rintro e w' ⟨db, rfl, hdb, hz, rfl⟩; have z1 : (9223372036854775807 < db.size + 1) = False := eq_false (by omega))
                    | (go_at_call 15; refine (power_any e1 b1 b2 _ (New.env (Fr.refl _ _).drew HEV.out)).mono ?_; rintro e wu ⟨pb, rfl, hpb, hnw⟩; have hps : pb.size ≤ 4 := (by rw [Lib.size_eq, hpb.out]; exact Tx.pow_len e1); have z2 : (9223372036854775807 < db.size + 1 + pb.size) = False := eq_false (by omega); have z3 : (9223372036854775807 < (b.size + 3) + (db.size + 1 + pb.size)) = False := eq_false (by omega); have HNU : Hid (New (wr.alloc (.cells #[.int .i64 e1, .int .i64 (-(q : Int))] 31)) wu) := Lib.hid ((Fr.refl _ _).drew.trans hnw.out); have hks : wu.cell? ⟨wr.heap.size, 0, none⟩ = some (.int .i64 e1) := hnw.out.cell hc (fun x => x); clear hnw))
                all_goals
                  go_wp2
                  have HR : Hid ((((b ++ ⟨#[32, 45, 32]⟩) ++ (db ++ ⟨#[42]⟩ ++ pb) : ByteArray)).data.toList = Tx.txt 0 (l.take (k + 1))) := Lib.hid (by rw [HT'.out]; rw [leadC c0 q1, Int.natAbs_neg, Int.natAbs_natCast, body2 c2 c3]; simp only [app_toList, hpb.out, hdb.out, List.append_assoc])
                  go_roundw
                  case rel => exact ⟨k + 1, _, by omega, by go_num, rfl, txt_size HR.out, HR, Lib.hid ((Fr.alloc HF.out _).trans HNU.out)⟩
                  case measure => simp [intOf]; omega
          · skip
            obtain rfl : e2 = (q : Int) := by omega
            clear hq
            have hng : ¬ (q : Int) < 0 := by omega
            have HEV : Hid (Env (wr.alloc (.cells #[.int .i64 e1, .int .i64 ((q : Int))] 31))) := Lib.hid (New.env (Fr.alloc HF.out _) HE.out)
            by_cases c2 : e1 = 0
            · subst c2
              go_wp2_with fail
              refine (itoa_max _ q (by omega) q2 _).mono ?_
              rintro e w' ⟨db, rfl, hdb, hz, rfl⟩
              go_wp2
              have HR : Hid ((((b ++ ⟨#[32, 43, 32]⟩) ++ db : ByteArray)).data.toList = Tx.txt 0 (l.take (k + 1))) := Lib.hid (by rw [HT'.out]; rw [leadD c0, Int.natAbs_natCast, body0]; simp only [app_toList, hdb.out, List.append_assoc])
              go_roundw
              case rel => exact ⟨k + 1, _, by omega, by go_num, rfl, txt_size HR.out, HR, Lib.hid (Fr.alloc HF.out _)⟩
              case measure => simp [intOf]; omega
            · by_cases c3 : q = 1
              · subst c3
                go_wp2_with fail
                refine (power_any e1 b1 b2 _ HEV.out).mono ?_
                rintro e wu ⟨pb, rfl, hpb, HNU⟩
                have hps : pb.size ≤ 4 := by rw [Lib.size_eq, hpb.out]; exact Tx.pow_len e1
                go_wp2
                have HR : Hid ((((b ++ ⟨#[32, 43, 32]⟩) ++ pb : ByteArray)).data.toList = Tx.txt 0 (l.take (k + 1))) := Lib.hid (by rw [HT'.out]; rw [leadD c0, Int.natAbs_natCast, body1 c2]; simp only [app_toList, hpb.out, List.append_assoc])
                go_roundw
                case rel => exact ⟨k + 1, _, by omega, by go_num, rfl, txt_size HR.out, HR, Lib.hid ((Fr.alloc HF.out _).trans HNU.out)⟩
                case measure => simp [intOf]; omega
              · have c3' : ¬ (q : Int) = 1 := by omega
                have hc := cell_two_new wr (.int .i64 e1) (.int .i64 ((q : Int))) 31 0 _ rfl
                simp only [Addr.add, Nat.zero_add] at hc
                go_wp2
                go_region_held3 (fun w' => w'.cell? ⟨wr.heap.size, 0, none⟩ = some (.int .i64 e1)) (first | assumption | go_keep)
                  (first
                    | (go_at_call 14; refine (itoa_max _ q (by omega) q2 _).mono ?_; rintro e w' ⟨db, rfl, hdb, hz, rfl⟩; have z1 : (9223372036854775807 < db.size + 1) = False := eq_false (by omega))
                    | (go_at_call 15; refine (power_any e1 b1 b2 _ (New.env (Fr.refl _ _).drew HEV.out)).mono ?_; rintro e wu ⟨pb, rfl, hpb, hnw⟩; have hps : pb.size ≤ 4 := (by rw [Lib.size_eq, hpb.out]; exact Tx.pow_len e1); have z2 : (9223372036854775807 < db.size + 1 + pb.size) = False := eq_false (by omega); have z3 : (9223372036854775807 < (b.size + 3) + (db.size + 1 + pb.size)) = False := eq_false (by omega); have HNU : Hid (New (wr.alloc (.cells #[.int .i64 e1, .int .i64 ((q : Int))] 31)) wu) := Lib.hid ((Fr.refl _ _).drew.trans hnw.out); have hks : wu.cell? ⟨wr.heap.size, 0, none⟩ = some (.int .i64 e1) := hnw.out.cell hc (fun x => x); clear hnw))
                all_goals
                  go_wp2
                  have HR : Hid ((((b ++ ⟨#[32, 43, 32]⟩) ++ (db ++ ⟨#[42]⟩ ++ pb) : ByteArray)).data.toList = Tx.txt 0 (l.take (k + 1))) := Lib.hid (by rw [HT'.out]; rw [leadD c0, Int.natAbs_natCast, body2 c2 c3]; simp only [app_toList, hpb.out, hdb.out, List.append_assoc])
                  go_roundw
                  case rel => exact ⟨k + 1, _, by omega, by go_num, rfl, txt_size HR.out, HR, Lib.hid ((Fr.alloc HF.out _).trans HNU.out)⟩
                  case measure => simp [intOf]; omega
      · obtain rfl : k = n := by omega
        go_wp2
        go_ret
        exact ⟨_, rfl, Lib.hid (by rw [HB.out, HN.out, List.take_length]; unfold Tx.full; rw [if_neg]; intro e; apply h0; rw [HN.out, e]; rfl), HF⟩
end Go.Proofs.YtanidlncijkmnaaDoor
