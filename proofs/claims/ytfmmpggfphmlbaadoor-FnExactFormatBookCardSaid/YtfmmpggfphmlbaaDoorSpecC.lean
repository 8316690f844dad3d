/- What the reference writes for a loan, and for a book. Fewer than 2^40 guards. -/
import Derived.Test.YtfmmpggfphmlbaaDoorSpecB
namespace Go.Proofs.YtfmmpggfphmlbaaDoor
open Go.RowKit Go.Proofs.YtfmmpggfphmlbaaDoorW.PrintWords
set_option linter.unusedVariables false
set_option linter.unusedSimpArgs false
section
attribute [local go_sem] bs_size
set_option maxRecDepth 100000 in
set_option maxHeartbeats 1000000 in
theorem spec_showEvent_lend (m a o : Int) (g : List Int) (rn rd : Int) (A : Option Addr) (c : Nat) (w : World) (hr : (Kd.int .i64).C w A g.length g) (hg : g.length ≤ 1099511627776) :
    Calls Tryd.prog 36 #[.agg #[.int .i64 3, .int .i64 m, .int .i64 a, .int .i64 o, .slice A g.length c, .int .i64 rn, .int .i64 rd]] w fun q w' => q = .returned (.string (bs (showE ⟨3, m, a, o, g, rn, rd⟩))) ∧ Below w.heap.size w w' := by
  have HR := Aside0.mk hr
  clear hr
  by_cases hm : rng 0 99 m = true
  · obtain ⟨m1, m2⟩ := rng_t hm
    have l1 := num_len m (by omega)
    by_cases ha : vAm a = true
    · obtain ⟨a1, a2⟩ := rng_t ha
      have l2 := money_len a (by omega) a1
      have HM := Lib.hid hm
      have HA := Lib.hid ha
      go_enter Tryd.func36, Tryd.ntmps36
      (go_wp2_with (first | (go_at_call 70; refine (spec_number _ _ ?q1 ?q2).mono ?_; (case q1 => omega); (case q2 => omega); rintro q w' ⟨rfl, rfl⟩; try exact ⟨rfl, _, rfl⟩) | (go_at_call 73; refine (spec_money _ _ ?q1 ?q2).mono ?_; (case q1 => omega); (case q2 => omega); rintro q w' ⟨rfl, rfl⟩; try exact ⟨rfl, _, rfl⟩) | (go_at_call 72; refine (spec_validAmount _ _).mono ?_; rintro q w' ⟨rfl, rfl⟩; try exact ⟨rfl, _, rfl⟩) | (go_at_call 71; refine (spec_inRange _ _ _ _).mono ?_; rintro q w' ⟨rfl, rfl⟩; try exact ⟨rfl, _, rfl⟩)); repeat (go_quiet (first | (go_at_call 70; refine (spec_number _ _ ?q1 ?q2).mono ?_; (case q1 => omega); (case q2 => omega); rintro q w' ⟨rfl, rfl⟩; try exact ⟨rfl, _, rfl⟩) | (go_at_call 73; refine (spec_money _ _ ?q1 ?q2).mono ?_; (case q1 => omega); (case q2 => omega); rintro q w' ⟨rfl, rfl⟩; try exact ⟨rfl, _, rfl⟩) | (go_at_call 72; refine (spec_validAmount _ _).mono ?_; rintro q w' ⟨rfl, rfl⟩; try exact ⟨rfl, _, rfl⟩) | (go_at_call 71; refine (spec_inRange _ _ _ _).mono ?_; rintro q w' ⟨rfl, rfl⟩; try exact ⟨rfl, _, rfl⟩)); try go_wp2_with (first | (go_at_call 70; refine (spec_number _ _ ?q1 ?q2).mono ?_; (case q1 => omega); (case q2 => omega); rintro q w' ⟨rfl, rfl⟩; try exact ⟨rfl, _, rfl⟩) | (go_at_call 73; refine (spec_money _ _ ?q1 ?q2).mono ?_; (case q1 => omega); (case q2 => omega); rintro q w' ⟨rfl, rfl⟩; try exact ⟨rfl, _, rfl⟩) | (go_at_call 72; refine (spec_validAmount _ _).mono ?_; rintro q w' ⟨rfl, rfl⟩; try exact ⟨rfl, _, rfl⟩) | (go_at_call 71; refine (spec_inRange _ _ _ _).mono ?_; rintro q w' ⟨rfl, rfl⟩; try exact ⟨rfl, _, rfl⟩))))
      go_loopw [3, 4] (fun v i wr => ∃ k : Nat, i = .int .i64 k ∧ k ≤ g.length ∧ v = .string (bs (wLend ++ spn m ++ spm a ++ (g.take k).flatMap spn)) ∧ Aside0 ((g.take k).all (rng 0 99) = true) ∧ Aside0 (Below w.heap.size w wr) ∧ wr.cell? ⟨w.heap.size, 4, none⟩ = some (.slice A g.length c)) (fun _ i _ => g.length - (intOf i).toNat)
      case atStart => exact ⟨0, rfl, Nat.zero_le _, by (simp only [c_sp, c_night, c_fail, c_save, c_take, c_repay, c_lend, c_join, c_share, c_none, bs_app]); simp [spn, spm], ⟨rfl⟩, ⟨(by repeat (first | (with_reducible first | exact Below.refl _ _ | apply below_alloc | apply pw_below_drewN | apply below_drew1 | refine below_step ?_ (by assumption)) | (with_reducible refine below_set ?_ (by omega))))⟩, by go_simp⟩
      case round =>
        obtain ⟨k, rfl, hk, rfl, hp, HB, hbox⟩ := hrel
        by_cases hlt : k < g.length
        · obtain ⟨x, ad, hx, rfl, hcell⟩ := at_nat (Kd.C_below HR.out HB.out) k hlt
          have hL := flat_spn_len (g.take k) (fun y hy => by have := all_mem hp.out y hy; omega)
          have hT : (g.take k).length ≤ 1099511627776 := by rw [List.length_take]; omega
          have hS : (wLend ++ spn m ++ spm a ++ (g.take k).flatMap spn).length ≤ 100 + 21 * 1099511627776 := by
            have h1 := spn_len m (by omega); have h2 := spm_len a (by omega) a1
            simp only [List.length_append]; simp [wLend]; simp at hL; omega
          have e1 : (bs (wLend ++ spn m ++ spm a ++ (g.take k).flatMap spn)).size ≤ 100 + 21 * 1099511627776 := by rw [bs_size]; exact hS
          have HP := Lib.hid (all_take (p := rng 0 99) hx.out)
          have HN := Lib.hid (take_snoc hx.out)
          obtain ⟨T, HT⟩ : ∃ T, T = wLend ++ spn m ++ spm a ++ (g.take k).flatMap spn := ⟨_, rfl⟩
          rw [← HT] at e1 hS
          have HQ := Lib.hid HT
          clear hL HT
          by_cases hi : rng 0 99 x = true
          · obtain ⟨i1, i2⟩ := rng_t hi
            have l3 := num_len x (by omega)
            rw [← HQ.out]
            (go_wp2_with (first | (go_at_call 70; refine (spec_number _ _ ?q1 ?q2).mono ?_; (case q1 => omega); (case q2 => omega); rintro q w' ⟨rfl, rfl⟩; try exact ⟨rfl, _, rfl⟩) | (go_at_call 73; refine (spec_money _ _ ?q1 ?q2).mono ?_; (case q1 => omega); (case q2 => omega); rintro q w' ⟨rfl, rfl⟩; try exact ⟨rfl, _, rfl⟩) | (go_at_call 72; refine (spec_validAmount _ _).mono ?_; rintro q w' ⟨rfl, rfl⟩; try exact ⟨rfl, _, rfl⟩) | (go_at_call 71; refine (spec_inRange _ _ _ _).mono ?_; rintro q w' ⟨rfl, rfl⟩; try exact ⟨rfl, _, rfl⟩)); repeat (go_quiet (first | (go_at_call 70; refine (spec_number _ _ ?q1 ?q2).mono ?_; (case q1 => omega); (case q2 => omega); rintro q w' ⟨rfl, rfl⟩; try exact ⟨rfl, _, rfl⟩) | (go_at_call 73; refine (spec_money _ _ ?q1 ?q2).mono ?_; (case q1 => omega); (case q2 => omega); rintro q w' ⟨rfl, rfl⟩; try exact ⟨rfl, _, rfl⟩) | (go_at_call 72; refine (spec_validAmount _ _).mono ?_; rintro q w' ⟨rfl, rfl⟩; try exact ⟨rfl, _, rfl⟩) | (go_at_call 71; refine (spec_inRange _ _ _ _).mono ?_; rintro q w' ⟨rfl, rfl⟩; try exact ⟨rfl, _, rfl⟩)); try go_wp2_with (first | (go_at_call 70; refine (spec_number _ _ ?q1 ?q2).mono ?_; (case q1 => omega); (case q2 => omega); rintro q w' ⟨rfl, rfl⟩; try exact ⟨rfl, _, rfl⟩) | (go_at_call 73; refine (spec_money _ _ ?q1 ?q2).mono ?_; (case q1 => omega); (case q2 => omega); rintro q w' ⟨rfl, rfl⟩; try exact ⟨rfl, _, rfl⟩) | (go_at_call 72; refine (spec_validAmount _ _).mono ?_; rintro q w' ⟨rfl, rfl⟩; try exact ⟨rfl, _, rfl⟩) | (go_at_call 71; refine (spec_inRange _ _ _ _).mono ?_; rintro q w' ⟨rfl, rfl⟩; try exact ⟨rfl, _, rfl⟩))))
            go_roundw
            case rel => exact ⟨k + 1, by go_num, by omega, by (simp only [c_sp, c_night, c_fail, c_save, c_take, c_repay, c_lend, c_join, c_share, c_none, bs_app]); rw [HN.out, HQ.out]; simp [spn], ⟨by rw [HP.out, hp.out, hi]; rfl⟩, ⟨by repeat (first | exact HB.out | apply pw_below_drewN | apply below_drew1)⟩, by go_simp⟩
            case measure => simp [intOf]; omega
          · have hi : rng 0 99 x = false := by simpa using hi
            rw [← HQ.out]
            (go_wp2_with (first | (go_at_call 70; refine (spec_number _ _ ?q1 ?q2).mono ?_; (case q1 => omega); (case q2 => omega); rintro q w' ⟨rfl, rfl⟩; try exact ⟨rfl, _, rfl⟩) | (go_at_call 73; refine (spec_money _ _ ?q1 ?q2).mono ?_; (case q1 => omega); (case q2 => omega); rintro q w' ⟨rfl, rfl⟩; try exact ⟨rfl, _, rfl⟩) | (go_at_call 72; refine (spec_validAmount _ _).mono ?_; rintro q w' ⟨rfl, rfl⟩; try exact ⟨rfl, _, rfl⟩) | (go_at_call 71; refine (spec_inRange _ _ _ _).mono ?_; rintro q w' ⟨rfl, rfl⟩; try exact ⟨rfl, _, rfl⟩)); repeat (go_quiet (first | (go_at_call 70; refine (spec_number _ _ ?q1 ?q2).mono ?_; (case q1 => omega); (case q2 => omega); rintro q w' ⟨rfl, rfl⟩; try exact ⟨rfl, _, rfl⟩) | (go_at_call 73; refine (spec_money _ _ ?q1 ?q2).mono ?_; (case q1 => omega); (case q2 => omega); rintro q w' ⟨rfl, rfl⟩; try exact ⟨rfl, _, rfl⟩) | (go_at_call 72; refine (spec_validAmount _ _).mono ?_; rintro q w' ⟨rfl, rfl⟩; try exact ⟨rfl, _, rfl⟩) | (go_at_call 71; refine (spec_inRange _ _ _ _).mono ?_; rintro q w' ⟨rfl, rfl⟩; try exact ⟨rfl, _, rfl⟩)); try go_wp2_with (first | (go_at_call 70; refine (spec_number _ _ ?q1 ?q2).mono ?_; (case q1 => omega); (case q2 => omega); rintro q w' ⟨rfl, rfl⟩; try exact ⟨rfl, _, rfl⟩) | (go_at_call 73; refine (spec_money _ _ ?q1 ?q2).mono ?_; (case q1 => omega); (case q2 => omega); rintro q w' ⟨rfl, rfl⟩; try exact ⟨rfl, _, rfl⟩) | (go_at_call 72; refine (spec_validAmount _ _).mono ?_; rintro q w' ⟨rfl, rfl⟩; try exact ⟨rfl, _, rfl⟩) | (go_at_call 71; refine (spec_inRange _ _ _ _).mono ?_; rintro q w' ⟨rfl, rfl⟩; try exact ⟨rfl, _, rfl⟩))))
            go_ret
            exact ⟨ret_str (by (simp only [c_sp, c_night, c_fail, c_save, c_take, c_repay, c_lend, c_join, c_share, c_none, bs_app]); simp [showE, HM.out, HA.out, all_no hx.out hi]), by repeat (first | exact HB.out | apply pw_below_drewN | apply below_drew1)⟩
        · go_wp2
          go_ret
          exact ⟨ret_str (by have h1 := hp.out; rw [List.take_of_length_le (by omega)] at h1 ⊢; simp [showE, HM.out, HA.out, h1]), HB.out⟩
    · have ha : vAm a = false := by simpa using ha
      go_enter Tryd.func36, Tryd.ntmps36
      (go_wp2_with (first | (go_at_call 70; refine (spec_number _ _ ?q1 ?q2).mono ?_; (case q1 => omega); (case q2 => omega); rintro q w' ⟨rfl, rfl⟩; try exact ⟨rfl, _, rfl⟩) | (go_at_call 73; refine (spec_money _ _ ?q1 ?q2).mono ?_; (case q1 => omega); (case q2 => omega); rintro q w' ⟨rfl, rfl⟩; try exact ⟨rfl, _, rfl⟩) | (go_at_call 72; refine (spec_validAmount _ _).mono ?_; rintro q w' ⟨rfl, rfl⟩; try exact ⟨rfl, _, rfl⟩) | (go_at_call 71; refine (spec_inRange _ _ _ _).mono ?_; rintro q w' ⟨rfl, rfl⟩; try exact ⟨rfl, _, rfl⟩)); repeat (go_quiet (first | (go_at_call 70; refine (spec_number _ _ ?q1 ?q2).mono ?_; (case q1 => omega); (case q2 => omega); rintro q w' ⟨rfl, rfl⟩; try exact ⟨rfl, _, rfl⟩) | (go_at_call 73; refine (spec_money _ _ ?q1 ?q2).mono ?_; (case q1 => omega); (case q2 => omega); rintro q w' ⟨rfl, rfl⟩; try exact ⟨rfl, _, rfl⟩) | (go_at_call 72; refine (spec_validAmount _ _).mono ?_; rintro q w' ⟨rfl, rfl⟩; try exact ⟨rfl, _, rfl⟩) | (go_at_call 71; refine (spec_inRange _ _ _ _).mono ?_; rintro q w' ⟨rfl, rfl⟩; try exact ⟨rfl, _, rfl⟩)); try go_wp2_with (first | (go_at_call 70; refine (spec_number _ _ ?q1 ?q2).mono ?_; (case q1 => omega); (case q2 => omega); rintro q w' ⟨rfl, rfl⟩; try exact ⟨rfl, _, rfl⟩) | (go_at_call 73; refine (spec_money _ _ ?q1 ?q2).mono ?_; (case q1 => omega); (case q2 => omega); rintro q w' ⟨rfl, rfl⟩; try exact ⟨rfl, _, rfl⟩) | (go_at_call 72; refine (spec_validAmount _ _).mono ?_; rintro q w' ⟨rfl, rfl⟩; try exact ⟨rfl, _, rfl⟩) | (go_at_call 71; refine (spec_inRange _ _ _ _).mono ?_; rintro q w' ⟨rfl, rfl⟩; try exact ⟨rfl, _, rfl⟩))))
      go_ret
      exact ⟨ret_str (by (simp only [c_sp, c_night, c_fail, c_save, c_take, c_repay, c_lend, c_join, c_share, c_none, bs_app]); simp [showE, *]), (by repeat (first | (with_reducible first | exact Below.refl _ _ | apply below_alloc | apply pw_below_drewN | apply below_drew1 | refine below_step ?_ (by assumption)) | (with_reducible refine below_set ?_ (by omega))))⟩
  · have hm : rng 0 99 m = false := by simpa using hm
    go_enter Tryd.func36, Tryd.ntmps36
    (go_wp2_with (first | (go_at_call 70; refine (spec_number _ _ ?q1 ?q2).mono ?_; (case q1 => omega); (case q2 => omega); rintro q w' ⟨rfl, rfl⟩; try exact ⟨rfl, _, rfl⟩) | (go_at_call 73; refine (spec_money _ _ ?q1 ?q2).mono ?_; (case q1 => omega); (case q2 => omega); rintro q w' ⟨rfl, rfl⟩; try exact ⟨rfl, _, rfl⟩) | (go_at_call 72; refine (spec_validAmount _ _).mono ?_; rintro q w' ⟨rfl, rfl⟩; try exact ⟨rfl, _, rfl⟩) | (go_at_call 71; refine (spec_inRange _ _ _ _).mono ?_; rintro q w' ⟨rfl, rfl⟩; try exact ⟨rfl, _, rfl⟩)); repeat (go_quiet (first | (go_at_call 70; refine (spec_number _ _ ?q1 ?q2).mono ?_; (case q1 => omega); (case q2 => omega); rintro q w' ⟨rfl, rfl⟩; try exact ⟨rfl, _, rfl⟩) | (go_at_call 73; refine (spec_money _ _ ?q1 ?q2).mono ?_; (case q1 => omega); (case q2 => omega); rintro q w' ⟨rfl, rfl⟩; try exact ⟨rfl, _, rfl⟩) | (go_at_call 72; refine (spec_validAmount _ _).mono ?_; rintro q w' ⟨rfl, rfl⟩; try exact ⟨rfl, _, rfl⟩) | (go_at_call 71; refine (spec_inRange _ _ _ _).mono ?_; rintro q w' ⟨rfl, rfl⟩; try exact ⟨rfl, _, rfl⟩)); try go_wp2_with (first | (go_at_call 70; refine (spec_number _ _ ?q1 ?q2).mono ?_; (case q1 => omega); (case q2 => omega); rintro q w' ⟨rfl, rfl⟩; try exact ⟨rfl, _, rfl⟩) | (go_at_call 73; refine (spec_money _ _ ?q1 ?q2).mono ?_; (case q1 => omega); (case q2 => omega); rintro q w' ⟨rfl, rfl⟩; try exact ⟨rfl, _, rfl⟩) | (go_at_call 72; refine (spec_validAmount _ _).mono ?_; rintro q w' ⟨rfl, rfl⟩; try exact ⟨rfl, _, rfl⟩) | (go_at_call 71; refine (spec_inRange _ _ _ _).mono ?_; rintro q w' ⟨rfl, rfl⟩; try exact ⟨rfl, _, rfl⟩))))
    go_ret
    exact ⟨ret_str (by (simp only [c_sp, c_night, c_fail, c_save, c_take, c_repay, c_lend, c_join, c_share, c_none, bs_app]); simp [showE, *]), (by repeat (first | (with_reducible first | exact Below.refl _ _ | apply below_alloc | apply pw_below_drewN | apply below_drew1 | refine below_step ?_ (by assumption)) | (with_reducible refine below_set ?_ (by omega))))⟩
theorem spec_showEvent (x : Event) (A : Option Addr) (c : Nat) (w : World) (hr : (Kd.int .i64).C w A x.g.length x.g) (hg : x.g.length ≤ 1099511627776) :
    Calls Tryd.prog 36 #[.agg #[.int .i64 x.k, .int .i64 x.m, .int .i64 x.a, .int .i64 x.o, .slice A x.g.length c, .int .i64 x.rn, .int .i64 x.rd]] w fun q w' => q = .returned (.string (bs (showE x))) ∧ Below w.heap.size w w' := by
  by_cases h : x.k = 3
  · obtain ⟨k, m, a, o, g, rn, rd⟩ := x
    obtain rfl : k = 3 := h
    exact spec_showEvent_lend m a o g rn rd A c w hr hg
  · exact spec_showEvent_a x A c w h
end
end Go.Proofs.YtfmmpggfphmlbaaDoor
