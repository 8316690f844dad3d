/- What the laws' helpers that count sizes answer. No condition but sizes in range. -/
import Derived.Test.YtfmmpggfphmlbaaDoorBase
namespace Go.Proofs.YtfmmpggfphmlbaaDoor
open Go.RowKit Go.Proofs.YtfmmpggfphmlbaaDoorW.PrintWords
set_option linter.unusedVariables false
set_option linter.unusedSimpArgs false
def less (left n : Int) : Int := if left - n < 0 then -1 else left - n
theorem less_lo (left n : Int) : -1 ≤ less left n := by unfold less; split <;> omega
theorem less_hi (left n : Int) (h : 0 ≤ n) (hl : -1 ≤ left) : less left n ≤ left := by unfold less; split <;> omega
theorem szIntS (A : Option Addr) (n c : Nat) (left : Int) (w : World) (hn : n ≤ 9223372036854775807) (h0 : 0 ≤ left) (h1 : left ≤ 1048576) :
    Calls Tryd.prog 68 #[.slice A n c, .int .i64 left] w fun e w' => e = .returned (.int .i64 (less left n)) ∧ w = w' := by
  go_enter Tryd.func68, Tryd.ntmps68
  go_wp2
  all_goals (go_ret)
  all_goals exact ⟨ret_int (by unfold less; first | rw [if_pos (by omega)] | rw [if_neg (by omega)]), rfl⟩
theorem szEvent (k m a o rn rd : Int) (A : Option Addr) (n c : Nat) (left : Int) (w : World) (hn : n ≤ 9223372036854775807) (h0 : 0 ≤ left) (h1 : left ≤ 1048576) :
    Calls Tryd.prog 35 #[.agg #[.int .i64 k, .int .i64 m, .int .i64 a, .int .i64 o, .slice A n c, .int .i64 rn, .int .i64 rd], .int .i64 left] w fun e w' => e = .returned (.int .i64 (less left n)) ∧ Below w.heap.size w w' := by
  have hz := less_lo left n
  go_enter Tryd.func35, Tryd.ntmps35
  by_cases hc : less left n < 0
  all_goals go_wp2_with (go_at_call 68; refine (szIntS _ _ _ _ _ hn h0 h1).mono ?_; rintro e w' ⟨rfl, rfl⟩)
  all_goals (go_ret)
  · exact ⟨ret_int (by omega), (Below.refl _ _).alloc (Nat.le_refl _) _⟩
  · exact ⟨rfl, (Below.refl _ _).alloc (Nat.le_refl _) _⟩
def glen (l : List Event) : Nat := (l.map fun e => e.g.length).sum
theorem glen_snoc {l : List Event} {k : Nat} {x : Event} (h : l[k]? = some x) : glen (l.take (k + 1)) = glen (l.take k) + x.g.length := by
  rw [take_snoc h]; simp [glen]
theorem glen_take (l : List Event) (k : Nat) : glen (l.take k) ≤ glen l := by
  have h : glen l = glen (l.take k) + glen (l.drop k) := by
    conv => lhs; rw [← List.take_append_drop k l]
    simp only [glen, List.map_append, List.sum_append]
  omega
theorem glen_all (l : List Event) (k : Nat) (h : l.length ≤ k) : glen (l.take k) = glen l := by rw [List.take_of_length_le h]
set_option maxRecDepth 100000 in
theorem szEventS (l : List Event) (A : Option Addr) (c : Nat) (left : Int) (w : World) (hr : kEvent.C w A l.length l) (h0 : 0 ≤ left) (h1 : left ≤ 1048576) :
    Calls Tryd.prog 9 #[.slice A l.length c, .int .i64 left] w fun e w' => e = .returned (.int .i64 (less left (l.length + glen l : Nat))) ∧ Below w.heap.size w w' := by
  have HR := Aside0.mk hr
  have hl : l.length ≤ 9223372036854775807 := hr.2.1
  clear hr
  go_enter Tryd.func9, Tryd.ntmps9
  by_cases hb : left - l.length < 0
  · go_wp2
    go_ret
    exact ⟨ret_int (by unfold less; rw [if_pos (by omega)]), Below.refl _ _⟩
  go_wp2
  go_loopw [1, 5] (fun v i wr => ∃ k : Nat, i = .int .i64 k ∧ k ≤ l.length ∧ v = .int .i64 (left - l.length - glen (l.take k)) ∧ 0 ≤ left - l.length - glen (l.take k) ∧ Aside0 (Below w.heap.size w wr)) (fun _ i _ => l.length - (intOf i).toNat)
  case atStart => exact ⟨0, rfl, Nat.zero_le _, by simp [glen], by simp [glen]; omega, ⟨Below.refl _ _⟩⟩
  case round =>
    obtain ⟨k, rfl, hk, rfl, hg, HB⟩ := hrel
    by_cases hlt : k < l.length
    · have ht := glen_take l (k + 1)
      obtain ⟨x, ad, A1, c1, hx, rfl, x0, x1, x2, x3, x4, x5, x6, hc1, hC1⟩ := at_event (Kd.C_below HR.out HB.out) k hlt
      have HS := Lib.hid (glen_snoc hx.out)
      have hn1 : x.g.length ≤ 9223372036854775807 := hC1.2.1
      have hu : left - l.length - glen (l.take k) ≤ 1048576 := by omega
      have hz := less_lo (left - l.length - glen (l.take k)) x.g.length
      by_cases hc : less (left - l.length - glen (l.take k)) x.g.length < 0
      · have HC := Lib.hid hc
        go_wp2_with (go_at_call 35; refine (szEvent _ _ _ _ _ _ _ _ _ _ _ hn1 hg hu).mono ?_; rintro e w' ⟨rfl, hb2⟩)
        go_ret
        exact ⟨ret_int (by have h1 := HC.out; have h2 := HS.out; unfold less at h1 ⊢; split at h1 <;> first | omega | (rw [if_pos (by omega)])), below_then HB.out HB.out.size hb2⟩
      · have HC := Lib.hid hc
        go_wp2_with (go_at_call 35; refine (szEvent _ _ _ _ _ _ _ _ _ _ _ hn1 hg hu).mono ?_; rintro e w' ⟨rfl, hb2⟩)
        have hv : less (left - l.length - glen (l.take k)) x.g.length = left - l.length - glen (l.take (k + 1)) := by
          have h1 := HC.out; have h2 := HS.out; unfold less at h1 ⊢; split at h1 <;> first | omega | (rw [if_neg (by omega)]; omega)
        go_roundw
        case rel => exact ⟨k + 1, by go_num, by omega, by rw [hv], by rw [← hv]; omega, ⟨below_then HB.out HB.out.size hb2⟩⟩
        case measure => simp [intOf]; omega
    · go_wp2
      go_ret
      exact ⟨ret_int (by unfold less; rw [← glen_all l k (by omega)]; rw [if_neg (by omega)]; omega), HB.out⟩
end Go.Proofs.YtfmmpggfphmlbaaDoor
