/- What the program writes for amounts and for what stands behind an event's first word. Fewer than 2^40 of them; the package variables as laid. -/
import Derived.Test.YtfmmpggfphmlbaaDoorImplB
namespace Go.Proofs.YtfmmpggfphmlbaaDoor
open Go.RowKit Go.Proofs.YtfmmpggfphmlbaaDoorW.PrintWords
set_option linter.unusedVariables false
set_option linter.unusedSimpArgs false
def amT (l : List Int) : Bs := if l.all vAm then l.flatMap spm else []
theorem am_mem {l : List Int} (h : l.all vAm = true) : ∀ x ∈ l, 0 ≤ x ∧ x ≤ 1000000 := fun x hx => rng_t (List.all_eq_true.1 h x hx)
theorem flat_spm_len (l : List Int) (h : ∀ x ∈ l, 0 ≤ x ∧ x ≤ 1000000) : (l.flatMap spm).length ≤ 62 * l.length := by
  induction l with
  | nil => simp
  | cons x l ih =>
    have h1 := spm_len x (by have := h x (by simp); omega) (by have := h x (by simp); omega)
    have h2 := ih (fun y hy => h y (by simp [hy]))
    simp only [List.flatMap_cons, List.length_append, List.length_cons]; omega
section
attribute [local go_sem] bs_size
set_option maxRecDepth 100000 in
set_option maxHeartbeats 1000000 in
theorem impl_showAmounts (l : List Int) (A : Option Addr) (c : Nat) (w : World) (hL : Laid w) (hr : (Kd.int .i64).C w A l.length l) (hn : l.length ≤ 1099511627776) :
    Calls Tryd.prog 93 #[.slice A l.length c] w fun e w' => e = .returned (.tuple #[.string (bs (amT l)), .bool (l.all vAm)]) ∧ Below w.heap.size w w' := by
  have HR := Aside0.mk hr
  have HL := Aside0.mk hL
  clear hr hL
  go_enter Tryd.func93, Tryd.ntmps93
  go_wp2
  go_loopw [4, 10] (fun v i wr => ∃ k : Nat, i = .int .i64 k ∧ k ≤ l.length ∧ v = .string (bs ((l.take k).flatMap spm)) ∧ Aside0 ((l.take k).all vAm = true) ∧ Aside0 (Below w.heap.size w wr)) (fun _ i _ => l.length - (intOf i).toNat)
  case atStart => exact ⟨0, rfl, Nat.zero_le _, rfl, ⟨rfl⟩, ⟨(by repeat (first | (with_reducible first | exact Below.refl _ _ | apply below_alloc | apply pw_below_drewN | apply below_drew1 | refine below_step ?_ (by assumption)) | (with_reducible refine below_set ?_ (by omega))))⟩⟩
  case round =>
    obtain ⟨k, rfl, hk, rfl, hp, HB⟩ := hrel
    by_cases hlt : k < l.length
    · obtain ⟨x, ad, hx, rfl, hcell⟩ := at_nat (Kd.C_below HR.out HB.out) k hlt
      have HP := Lib.hid (all_take (p := vAm) hx.out)
      have HN := Lib.hid (take_snoc hx.out)
      have hS : ((l.take k).flatMap spm).length ≤ 62 * 1099511627776 := by
        have hT : (l.take k).length ≤ 1099511627776 := by rw [List.length_take]; omega
        exact Nat.le_trans (flat_spm_len (l.take k) (am_mem hp.out)) (Nat.mul_le_mul_left _ hT)
      obtain ⟨T, HT⟩ : ∃ T, T = (l.take k).flatMap spm := ⟨_, rfl⟩
      rw [← HT] at hS
      have HQ := Lib.hid HT
      clear HT
      have HE : ∀ b : Bool, (showM x).isEmpty = b → (bs (showM x)).toList.isEmpty = b := fun b h => by rw [bs_toList]; exact h
      by_cases hv : vAm x = true
      · have he := HE false (by rw [showM, if_pos hv]; have := money_len x (by have := rng_t hv; omega); simp [money, num_pos])
        obtain ⟨v0, v1⟩ := rng_t hv
        have hM : (showM x).length ≤ 61 := by rw [showM, if_pos hv]; exact money_len x (by omega) v0
        have hv := Lib.hid hv
        clear HE
        rw [← HQ.out]
        go_wp2_with (go_at_call 44; refine (impl_ShowMoney _ _ (HL.out.below HB.out)).mono ?_; rintro q w2 ⟨rfl, hb2⟩)
        go_roundw
        case rel => exact ⟨k + 1, by go_num, by omega, by rw [c_sp, bs_app, bs_app, HN.out, HQ.out, List.flatMap_append]; simp [spm, showM, hv.out], ⟨by rw [HP.out, hp.out, hv.out]; rfl⟩, ⟨below_step HB.out hb2⟩⟩
        case measure => simp [intOf]; omega
      · have hv : vAm x = false := by simpa using hv
        have he := HE true (by rw [showM, hv]; rfl)
        have hv := Lib.hid (all_no hx.out hv)
        clear HE
        rw [← HQ.out]
        go_wp2_with (go_at_call 44; refine (impl_ShowMoney _ _ (HL.out.below HB.out)).mono ?_; rintro q w2 ⟨rfl, hb2⟩)
        go_ret2
        exact ⟨by rw [amT, hv.out]; rfl, below_step HB.out hb2⟩
    · go_wp2_with fail
      go_ret2
      exact ⟨by have h1 := hp.out; rw [List.take_of_length_le (by omega)] at h1 ⊢; rw [amT, h1]; rfl, HB.out⟩
end
end Go.Proofs.YtfmmpggfphmlbaaDoor
