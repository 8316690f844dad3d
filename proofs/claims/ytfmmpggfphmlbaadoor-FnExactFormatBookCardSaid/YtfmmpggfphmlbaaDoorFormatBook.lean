/- FnExactFormatBook answers true at every book that reads. The package variables as laid. -/
import Derived.Test.YtfmmpggfphmlbaaDoorImplE
import Derived.Test.YtfmmpggfphmlbaaDoorToS
import Derived.Test.YtfmmpggfphmlbaaDoorEq
import Derived.Test.YtfmmpggfphmlbaaDoorSz
import Derived.Test.YtfmmpggfphmlbaaDoorArg
namespace Go.Proofs.YtfmmpggfphmlbaaDoor
open Go.RowKit Go.Proofs.YtfmmpggfphmlbaaDoorW.PrintWords
set_option linter.unusedVariables false
set_option linter.unusedSimpArgs false
theorem glen_mem {l : List Event} {e : Event} (h : e ∈ l) : e.g.length ≤ glen l := by
  induction l with
  | nil => simp at h
  | cons x l ih =>
    have h1 : glen (x :: l) = x.g.length + glen l := by simp [glen]
    rcases List.mem_cons.1 h with rfl | h
    · omega
    · have := ih h; omega
theorem S_C {α : Type} {d : Kd α} {e : Nat} {w : World} {base : Nat} {ok : Nat → Prop} {A : Option Addr} {n c : Nat} {xs : List α} (h : Kd.S d e w base ok (.slice A n c) xs) : d.C w A xs.length xs := by
  obtain ⟨A', c', he, _, hC⟩ := Kd.R_reads (Kd.S_R h)
  injection he with hA _ _
  rw [hA]; exact hC
section
attribute [local go_sem] bs_size
set_option maxRecDepth 100000 in
set_option maxHeartbeats 1000000 in
theorem law_ExactFormatBook (l : List Event) (A : Option Addr) (c : Nat) (w : World) (hL : Laid w) (hr : kEvent.C w A l.length l) (hi : ∀ e ∈ l, I64E e) :
    Calls Tryd.prog 3 #[.slice A l.length c] w fun e w' => e = .returned (.bool true) ∧ Below w.heap.size w w' := by
  have HR := Aside0.mk hr
  have HL := Aside0.mk hL
  have HI := Aside0.mk hi
  clear hr hL hi
  go_enter Tryd.func3, Tryd.ntmps3
  go_wp2_with fail
  go_at_call 9
  refine (szEventS l _ _ _ _ HR.out (by omega) (by omega)).mono ?_
  rintro q w1 ⟨rfl, hb1⟩
  by_cases hs : l.length + glen l ≤ 1048576
  · obtain ⟨v, hv⟩ : ∃ v, v = less 1048576 (l.length + glen l : Nat) := ⟨_, rfl⟩
    have h0 : 0 ≤ v := by rw [hv, less, if_neg (by omega)]; omega
    rw [← hv]
    clear hv
    have HG := Aside0.mk (fun e (he : e ∈ l) => Nat.le_trans (glen_mem he) (show glen l ≤ 1048576 by omega))
    have hn : l.length ≤ 1048576 := by omega
    clear hs
    go_wp2_with fail
    go_at_call 11
    refine (toEventS l _ _ _ (Kd.C_below HR.out hb1) hn HG.out).mono ?_
    rintro q w2 ⟨A2, c2, rfl, hS2, hb2⟩
    have HC2 := Aside0.mk (S_C hS2)
    clear hS2
    go_wp2_with fail
    go_at_call 10
    refine (spec_FormatBook l _ _ _ HC2.out HG.out).mono ?_
    rintro q w3 ⟨rfl, hb3⟩
    have B3 := below_step (below_step hb1 hb2) hb3
    go_wp2_with fail
    go_at_call 11
    refine (toEventS l _ _ _ (Kd.C_below HR.out B3) hn HG.out).mono ?_
    rintro q w4 ⟨A4, c4, rfl, hS4, hb4⟩
    have HC4 := Aside0.mk (S_C hS4)
    clear hS4
    have B4 := below_step B3 hb4
    go_wp2_with fail
    go_at_call 12
    refine (impl_FormatBook l _ _ _ (HL.out.below B4) HC4.out (fun e he => ⟨(HI.out e he).2.2.2.2.2.1, (HI.out e he).2.2.2.2.2.2, HG.out e he⟩)).mono ?_
    rintro q w5 ⟨rfl, hb5⟩
    have B5 := below_step B4 hb5
    go_wp2_with fail
    go_at_call 11
    refine (toEventS l _ _ _ (Kd.C_below HR.out B5) hn HG.out).mono ?_
    rintro q w6 ⟨A6, c6, rfl, hS6, hb6⟩
    have HC6 := Aside0.mk (S_C hS6)
    clear hS6
    go_wp2_with fail
    go_at_call 13
    refine (eqEventS l _ _ _ _ _ (Kd.C_below (Kd.C_below HC4.out hb5) hb6) HC6.out).mono ?_
    rintro q w7 ⟨rfl, hb7⟩
    go_wp2
    go_ret
    exact ⟨rfl, below_step (below_step B5 hb6) hb7⟩
  · obtain ⟨v, hv⟩ : ∃ v, v = less 1048576 (l.length + glen l : Nat) := ⟨_, rfl⟩
    have h0 : v < 0 := by rw [hv, less, if_pos (by omega)]; omega
    rw [← hv]
    clear hv
    go_wp2
    go_ret
    exact ⟨rfl, hb1⟩
end
end Go.Proofs.YtfmmpggfphmlbaaDoor
