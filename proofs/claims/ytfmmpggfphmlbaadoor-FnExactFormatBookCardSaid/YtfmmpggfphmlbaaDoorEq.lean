/- The laws' comparisons answer true at records that read alike. No condition but that. -/
import Derived.Test.YtfmmpggfphmlbaaDoorBase
import Derived.StillTailTactics
namespace Go.Proofs.YtfmmpggfphmlbaaDoor
open Go.RowKit Go.Proofs.YtfmmpggfphmlbaaDoorW.PrintWords
set_option linter.unusedVariables false
set_option linter.unusedSimpArgs false
set_option maxRecDepth 100000 in
theorem eqIntS (l : List Int) (A B : Option Addr) (c d : Nat) (w : World) (hr : (Kd.int .i64).C w A l.length l) (hs : (Kd.int .i64).C w B l.length l) :
    Calls Tryd.prog 62 #[.slice A l.length c, .slice B l.length d] w fun e w' => e = .returned (.bool true) ∧ Drawn0 w w' := by
  have HR := Aside0.mk hr
  have HS := Aside0.mk hs
  have hl : l.length ≤ 9223372036854775807 := hr.2.1
  clear hr hs
  go_enter Tryd.func62, Tryd.ntmps62
  go_wp2
  go_loopw [5] (fun i wr => ∃ k : Nat, i = .int .i64 k ∧ k ≤ l.length ∧ Drawn0 w wr) (fun i _ => l.length - (intOf i).toNat)
  case atStart => exact ⟨0, rfl, Nat.zero_le _, Drawn0.refl _⟩
  case round =>
    obtain ⟨k, rfl, hk, ⟨m, rfl⟩⟩ := hrel
    by_cases hlt : k < l.length
    · obtain ⟨x, ad, hx, rfl, c0⟩ := at_nat HR.out k hlt
      obtain ⟨y, bd, hy, rfl, d0⟩ := at_nat HS.out k hlt
      obtain rfl : x = y := by have := hx.out.symm.trans hy.out; injection this
      go_wp2
      go_quiet (fail)
      go_wp2
      go_roundw
      case rel => exact ⟨k + 1, by go_num, by omega, (by repeat (first | exact Drawn0.refl _ | apply Drawn0.step))⟩
      case measure => simp [intOf]; omega
    · go_wp2
      go_ret
      exact ⟨rfl, (by repeat (first | exact Drawn0.refl _ | apply Drawn0.step))⟩
set_option maxRecDepth 100000 in
theorem eqRate (a b : Int) (w : World) :
    Calls Tryd.prog 63 #[.agg #[.int .i64 a, .int .i64 b], .agg #[.int .i64 a, .int .i64 b]] w fun e w' => e = .returned (.bool true) ∧ Below w.heap.size w w' := by
  go_enter Tryd.func63, Tryd.ntmps63
  (go_wp2; repeat (go_quiet (fail); try go_wp2_with fail))
  go_ret
  exact ⟨rfl, (by repeat (first | (with_reducible first | exact Below.refl _ _ | apply below_alloc | apply pw_below_drewN | apply below_drew1 | refine below_step ?_ (by assumption)) | (with_reducible refine below_set ?_ (by omega))))⟩
set_option maxRecDepth 100000 in
theorem eqEvent (x : Event) (A B : Option Addr) (c d : Nat) (w : World) (hr : (Kd.int .i64).C w A x.g.length x.g) (hs : (Kd.int .i64).C w B x.g.length x.g) :
    Calls Tryd.prog 28 #[.agg #[.int .i64 x.k, .int .i64 x.m, .int .i64 x.a, .int .i64 x.o, .slice A x.g.length c, .int .i64 x.rn, .int .i64 x.rd], .agg #[.int .i64 x.k, .int .i64 x.m, .int .i64 x.a, .int .i64 x.o, .slice B x.g.length d, .int .i64 x.rn, .int .i64 x.rd]] w fun e w' => e = .returned (.bool true) ∧ Below w.heap.size w w' := by
  have HR := Aside0.mk hr
  have HS := Aside0.mk hs
  clear hr hs
  go_enter Tryd.func28, Tryd.ntmps28
  go_wp2_with fail
  repeat (go_quiet (fail); try go_wp2_with fail)
  go_at_call 62
  refine (eqIntS x.g A B c d _ (Kd.C_below HR.out (by repeat (first | (with_reducible first | exact Below.refl _ _ | apply below_alloc | apply pw_below_drewN | apply below_drew1 | refine below_step ?_ (by assumption)) | (with_reducible refine below_set ?_ (by omega))))) (Kd.C_below HS.out (by repeat (first | (with_reducible first | exact Below.refl _ _ | apply below_alloc | apply pw_below_drewN | apply below_drew1 | refine below_step ?_ (by assumption)) | (with_reducible refine below_set ?_ (by omega)))))).mono ?_
  rintro e w1 ⟨rfl, ⟨n1, rfl⟩⟩
  go_wp2_with fail
  go_at_call 63
  refine (eqRate _ _ _).mono ?_
  rintro e w2 ⟨rfl, hb⟩
  go_wp2
  go_ret
  exact ⟨rfl, (by repeat (first | (with_reducible first | exact Below.refl _ _ | apply below_alloc | apply pw_below_drewN | apply below_drew1 | refine below_step ?_ (by assumption)) | (with_reducible refine below_set ?_ (by omega))))⟩
set_option maxRecDepth 100000 in
theorem eqEventS (l : List Event) (A B : Option Addr) (c d : Nat) (w : World) (hr : kEvent.C w A l.length l) (hs : kEvent.C w B l.length l) :
    Calls Tryd.prog 13 #[.slice A l.length c, .slice B l.length d] w fun e w' => e = .returned (.bool true) ∧ Below w.heap.size w w' := by
  have HR := Aside0.mk hr
  have HS := Aside0.mk hs
  have hl : l.length ≤ 9223372036854775807 := hr.2.1
  clear hr hs
  go_enter Tryd.func13, Tryd.ntmps13
  go_wp2
  go_loopw [5] (fun i wr => ∃ k : Nat, i = .int .i64 k ∧ k ≤ l.length ∧ Aside0 (Below w.heap.size w wr)) (fun i _ => l.length - (intOf i).toNat)
  case atStart => exact ⟨0, rfl, Nat.zero_le _, ⟨Below.refl _ _⟩⟩
  case round =>
    obtain ⟨k, rfl, hk, HB⟩ := hrel
    by_cases hlt : k < l.length
    · obtain ⟨x, ad, A1, c1, hx, rfl, x0, x1, x2, x3, x4, x5, x6, hc1, hC1⟩ := at_event (Kd.C_below HR.out HB.out) k hlt
      obtain ⟨y, bd, B1, d1, hy, rfl, y0, y1, y2, y3, y4, y5, y6, hd1, hD1⟩ := at_event (Kd.C_below HS.out HB.out) k hlt
      obtain rfl : x = y := by have := hx.out.symm.trans hy.out; injection this
      have HC := Aside0.mk hC1
      have HD := Aside0.mk hD1
      clear hC1 hD1
      go_wp2_with fail
      go_still_tail 8, (by kernel_rfl)
      go_wp2_with fail
      go_at_call 28
      refine (eqEvent x A1 B1 c1 d1 _ (Kd.C_below HC.out (below_drew (Below.refl _ _))) (Kd.C_below HD.out (below_drew (Below.refl _ _)))).mono ?_
      rintro e w2 ⟨rfl, hb⟩
      go_wp2
      go_roundw
      case rel => exact ⟨k + 1, by go_num, by omega, ⟨below_step (below_drew HB.out) hb⟩⟩
      case measure => simp [intOf]; omega
    · go_wp2
      go_ret
      exact ⟨rfl, HB.out⟩
end Go.Proofs.YtfmmpggfphmlbaaDoor
