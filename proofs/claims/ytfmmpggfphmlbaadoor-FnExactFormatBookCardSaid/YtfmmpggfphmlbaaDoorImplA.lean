/- What the program writes for an amount and for numbers of members. The package variables as laid. -/
import Derived.Test.YtfmmpggfphmlbaaDoorLaid
import Derived.Test.YtfmmpggfphmlbaaDoorBuilder
namespace Go.Proofs.YtfmmpggfphmlbaaDoor
open Go.RowKit Go.Proofs.YtfmmpggfphmlbaaDoorW.PrintWords
set_option linter.unusedVariables false
set_option linter.unusedSimpArgs false
def showM (n : Int) : Bs := if vAm n then money n else []
def pad2 (n : Int) : Bs := if (num n).length < 2 then 48 :: num n else num n
theorem pad2_eq (n : Int) (h0 : 0 ≤ n) (h : n < 100) : pad2 n = num (n / 10 % 10) ++ num (n % 10) := by
  have : ∀ v : Fin 100, pad2 (v.val : Int) = num ((v.val : Int) / 10 % 10) ++ num ((v.val : Int) % 10) := by decide +kernel
  have := this ⟨n.toNat, by omega⟩
  simpa [show (n.toNat : Int) = n from by omega] using this
theorem money_pad (n : Int) (h0 : 0 ≤ n) : money n = num (n / 100) ++ [46] ++ pad2 (n % 100) := by
  rw [pad2_eq (n % 100) (by omega) (by omega), money, show n % 100 / 10 % 10 = n / 10 % 10 from by omega, show n % 100 % 10 = n % 10 from by omega]; simp
section
attribute [local go_sem] bs_size
set_option maxRecDepth 100000 in
theorem impl_ShowMoney (n : Int) (w : World) (hL : Laid w) :
    Calls Tryd.prog 44 #[.int .i64 n] w fun e w' => e = .returned (.string (bs (showM n))) ∧ Below w.heap.size w w' := by
  have HL := Aside0.mk hL
  clear hL
  by_cases h : 0 ≤ n ∧ n ≤ 1000000
  · obtain ⟨h0, h1⟩ := h
    have l1 := num_len (n / 100) (by omega)
    have l2 := num_len (n % 100) (by omega)
    by_cases hp : (num (n % 100)).length < 2
    all_goals
      go_enter Tryd.func44, Tryd.ntmps44
      go_wp2_with fail
      go_at_call 43
      refine (itoa_any _ _ HL.out (by omega) (by omega)).mono ?_
      rintro q w1 ⟨rfl, hb1⟩
      go_wp2_with fail
      go_at_call 43
      refine (itoa_any _ _ (HL.out.below hb1) (by omega) (by omega)).mono ?_
      rintro q w2 ⟨rfl, hb2⟩
      go_wp2
      go_ret
      refine ⟨ret_str ?_, (by repeat (first | (with_reducible first | exact Below.refl _ _ | apply below_alloc | apply pw_below_drewN | apply below_drew1 | refine below_step ?_ (by assumption)) | (with_reducible refine below_set ?_ (by omega))))⟩
      rw [showM, show vAm n = true from decide_eq_true ⟨h0, h1⟩, if_pos rfl, money_pad n h0, pad2]
    · rw [if_pos hp, c_dot, show (⟨#[48]⟩ : ByteArray) = bs [48] from rfl, bs_app, bs_app, bs_app]; simp
    · rw [if_neg hp, c_dot, bs_app, bs_app]
  · have hv : vAm n = false := decide_eq_false h
    by_cases h0 : n < 0
    all_goals
      go_enter Tryd.func44, Tryd.ntmps44
      go_wp2
      go_ret
      exact ⟨ret_str (by rw [showM, hv]; rfl), Below.refl _ _⟩
end
end Go.Proofs.YtfmmpggfphmlbaaDoor
