/- What the reference writes for a book. Fewer than 2^20 guards an event. -/
import Derived.Test.YtfmmpggfphmlbaaDoorSpecC
namespace Go.Proofs.YtfmmpggfphmlbaaDoor
open Go.RowKit Go.Proofs.YtfmmpggfphmlbaaDoorW.PrintWords
set_option linter.unusedVariables false
set_option linter.unusedSimpArgs false
section
attribute [local go_sem] bs_size
def lines (l : List Event) : Bs := l.flatMap (fun e => showE e ++ [10])
theorem lines_len (l : List Event) (h : ∀ e ∈ l, e.g.length ≤ 1048576) : (lines l).length ≤ l.length * 22020297 := by
  induction l with
  | nil => simp [lines]
  | cons x l ih =>
    have h1 := showE_len x
    have h2 := h x (by simp)
    have h3 := ih (fun y hy => h y (by simp [hy]))
    simp only [lines, List.flatMap_cons, List.length_append, List.length_cons, List.length_nil] at h3 ⊢; omega
theorem showB_ok {l : List Event} (h0 : l.length ≤ 30) (h : l.all (fun e => !(showE e).isEmpty) = true) : showB l = lines l := by unfold showB; rw [if_neg (by omega), if_pos h]; rfl
theorem showB_no {l : List Event} {k : Nat} {x : Event} (hx : l[k]? = some x) (h : showE x = []) : showB l = [] := by
  unfold showB; split; · rfl
  rw [if_neg]; simp; exact ⟨x, mem_of_at hx, h⟩
theorem evs_take {l : List Event} {k : Nat} {x : Event} {p : Event → Bool} (h : l[k]? = some x) : (l.take (k + 1)).all p = ((l.take k).all p && p x) := by rw [take_snoc h]; simp
set_option maxRecDepth 100000 in
set_option maxHeartbeats 1000000 in
theorem spec_FormatBook (l : List Event) (A : Option Addr) (c : Nat) (w : World) (hr : kEvent.C w A l.length l) (hg : ∀ e ∈ l, e.g.length ≤ 1048576) :
    Calls Tryd.prog 10 #[.slice A l.length c] w fun q w' => q = .returned (.string (bs (showB l))) ∧ Below w.heap.size w w' := by
  have HR := Aside0.mk hr
  have hl : l.length ≤ 9223372036854775807 := hr.2.1
  have HG := Aside0.mk hg
  clear hr hg
  go_enter Tryd.func10, Tryd.ntmps10
  by_cases h30 : 30 < l.length
  · go_wp2
    go_ret
    exact ⟨ret_str (by unfold showB; rw [if_pos h30]; rfl), Below.refl _ _⟩
  go_wp2
  go_loopw [3, 4] (fun v i wr => ∃ k : Nat, i = .int .i64 k ∧ k ≤ l.length ∧ v = .string (bs (lines (l.take k))) ∧ Aside0 ((l.take k).all (fun e => !(showE e).isEmpty) = true) ∧ Aside0 (Below w.heap.size w wr)) (fun _ i _ => l.length - (intOf i).toNat)
  case atStart => exact ⟨0, rfl, Nat.zero_le _, rfl, ⟨rfl⟩, ⟨Below.refl _ _⟩⟩
  case round =>
    obtain ⟨k, rfl, hk, rfl, hp, HB⟩ := hrel
    by_cases hlt : k < l.length
    · obtain ⟨x, ad, A1, c1, hx, rfl, x0, x1, x2, x3, x4, x5, x6, hc1, hC1⟩ := at_event (Kd.C_below HR.out HB.out) k hlt
      have HN := Lib.hid (take_snoc hx.out)
      have HP := Lib.hid (evs_take (p := fun e => !(showE e).isEmpty) hx.out)
      have hgx : x.g.length ≤ 1099511627776 := by have := HG.out x (mem_of_at hx.out); omega
      have HC := Aside0.mk hC1
      clear hC1
      have hs1 := showE_len x
      have hs2 : x.g.length ≤ 1048576 := HG.out x (mem_of_at hx.out)
      have hs3 : (lines (l.take k)).length ≤ 30 * 22020297 := by
        have h1 := lines_len (l.take k) (fun e he => HG.out e (List.mem_of_mem_take he))
        have h2 : (l.take k).length ≤ 30 := by rw [List.length_take]; omega
        exact Nat.le_trans h1 (Nat.mul_le_mul_right _ h2)
      have HE : ∀ b : Bool, (showE x).isEmpty = b → (bs (showE x)).toList.isEmpty = b := fun b h => by rw [bs_toList]; exact h
      have HE := Lib.hid HE
      by_cases he : (showE x).isEmpty = true
      · have ht := HE.out _ he
        have he := Lib.hid he
        go_wp2_with (go_at_call 36; refine (spec_showEvent x _ _ _ ?q1 hgx).mono ?_; (case q1 => exact HC.out); rintro q w' ⟨rfl, hb⟩)
        go_ret
        exact ⟨ret_str (by rw [showB_no hx.out (by simpa using he.out)]; rfl), below_step HB.out hb⟩
      · have he : (showE x).isEmpty = false := by simpa using he
        have ht := HE.out _ he
        have he := Lib.hid he
        go_wp2_with fail
        go_at_call 36
        refine (spec_showEvent x _ _ _ HC.out hgx).mono ?_
        rintro q w1 ⟨rfl, hb1⟩
        have y0 := pw_cell_below hb1 x0
        have y1 := pw_cell_below hb1 x1
        have y2 := pw_cell_below hb1 x2
        have y3 := pw_cell_below hb1 x3
        have y4 := pw_cell_below hb1 x4
        have y5 := pw_cell_below hb1 x5
        have y6 := pw_cell_below hb1 x6
        go_wp2_with fail
        go_at_call 36
        refine (spec_showEvent x _ _ _ (Kd.C_below HC.out hb1) hgx).mono ?_
        rintro q w2 ⟨rfl, hb2⟩
        go_wp2
        go_roundw
        case rel => exact ⟨k + 1, by go_num, by omega, by rw [HN.out, show (⟨#[10]⟩ : ByteArray) = bs [10] from rfl, bs_app, bs_app]; simp [lines], ⟨by rw [HP.out, hp.out, he.out]; rfl⟩, ⟨below_step (below_step HB.out hb1) hb2⟩⟩
        case measure => simp [intOf]; omega
    · go_wp2
      go_ret
      exact ⟨ret_str (by have h1 := hp.out; rw [List.take_of_length_le (by omega)] at h1 ⊢; rw [showB_ok (by omega) h1]), HB.out⟩
end
end Go.Proofs.YtfmmpggfphmlbaaDoor
