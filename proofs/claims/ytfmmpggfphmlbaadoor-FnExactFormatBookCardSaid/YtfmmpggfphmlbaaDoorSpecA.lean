/- What the reference's small functions answer: ranges, numbers in decimal, amounts. Numbers at least 0. -/
import Derived.Test.YtfmmpggfphmlbaaDoorText
namespace Go.Proofs.YtfmmpggfphmlbaaDoor
open Go.RowKit Go.Proofs.YtfmmpggfphmlbaaDoorW.PrintWords
set_option linter.unusedVariables false
set_option linter.unusedSimpArgs false
theorem spec_inRange (n lo hi : Int) (w : World) :
    Calls Tryd.prog 71 #[.int .i64 n, .int .i64 lo, .int .i64 hi] w fun e w' => e = .returned (.bool (rng lo hi n)) ∧ w = w' := by
  go_enter Tryd.func71, Tryd.ntmps71
  go_wp2
  all_goals (go_ret)
  all_goals exact ⟨ret_bool (by simp [rng]; omega), rfl⟩
theorem spec_validAmount (n : Int) (w : World) :
    Calls Tryd.prog 72 #[.int .i64 n] w fun e w' => e = .returned (.bool (vAm n)) ∧ w = w' := by
  go_enter Tryd.func72, Tryd.ntmps72
  go_wp2_with (go_at_call 71; refine (spec_inRange _ _ _ _).mono ?_; rintro e w' ⟨rfl, rfl⟩)
  go_ret
  exact ⟨rfl, rfl⟩
theorem spec_validRate (a b : Int) (w : World) :
    Calls Tryd.prog 69 #[.agg #[.int .i64 a, .int .i64 b]] w fun e w' => e = .returned (.bool (vRate a b)) ∧ Below w.heap.size w w' := by
  go_enter Tryd.func69, Tryd.ntmps69
  by_cases h1 : rng 1 1000 b = true
  all_goals go_wp2_with (go_at_call 71; refine (spec_inRange _ _ _ _).mono ?_; rintro e w' ⟨rfl, rfl⟩)
  all_goals go_ret
  · exact ⟨ret_bool (by simp [vRate, *]), (Below.refl _ _).alloc (Nat.le_refl _) _⟩
  · exact ⟨ret_bool (by simp [vRate, *]), (Below.refl _ _).alloc (Nat.le_refl _) _⟩
theorem dig_cut (u : Nat) (h : u < 10) : (⟨#[48, 49, 50, 51, 52, 53, 54, 55, 56, 57]⟩ : ByteArray).extract u (u + 1) = bs (Lib.decDigits u) := by
  rw [Lib.decDigits, dif_pos h]
  have : ∀ v : Fin 10, (⟨#[48, 49, 50, 51, 52, 53, 54, 55, 56, 57]⟩ : ByteArray).extract v.val (v.val + 1) = bs [UInt8.ofNat (48 + v.val)] := by decide +kernel
  exact this ⟨u, h⟩
theorem decDigits_step (u : Nat) (h : ¬ u < 10) : Lib.decDigits u = Lib.decDigits (u / 10) ++ Lib.decDigits (u % 10) := by
  rw [Lib.decDigits, dif_neg h]; congr 1; rw [Lib.decDigits, dif_pos (by omega)]
theorem dec_len (u : Nat) (h : u ≤ 9223372036854775807) : (Lib.decDigits u).length ≤ 20 := by rw [Lib.decDigits_length]; exact Lib.nDigits_le20 _ (by omega)
theorem num_small (n : Int) (h0 : 0 ≤ n) (h : n < 10) : (⟨#[48, 49, 50, 51, 52, 53, 54, 55, 56, 57]⟩ : ByteArray).extract n.toNat (n.toNat + 1) = bs (num n) := dig_cut _ (by omega)
theorem num_step (n : Int) (h : 10 ≤ n) : num n = num (n / 10) ++ num (n % 10) := by
  unfold num
  rw [decDigits_step _ (by omega), show n.toNat / 10 = (n / 10).toNat from by omega, show n.toNat % 10 = (n % 10).toNat from by omega]
set_option maxRecDepth 100000 in
theorem spec_number_at (k : Nat) : ∀ (n : Int) (w : World), n ≤ k → 0 ≤ n → n ≤ 9223372036854775807 →
    Calls Tryd.prog 70 #[.int .i64 n] w fun e w' => e = .returned (.string (bs (num n))) ∧ w = w' := by
  induction k using Nat.strongRecOn with
  | _ k ih =>
    intro n w hk h0 hu
    by_cases h : n < 10
    · have hp : n ≤ n + 1 := by omega
      have hq : n + 1 ≤ 10 := by omega
      have hd := Lib.hid (num_small n h0 h)
      go_enter Tryd.func70, Tryd.ntmps70
      go_wp2_with fail
      go_ret
      exact ⟨ret_str (by first | exact hd.out | (rw [← hd.out]; congr 1; omega)), rfl⟩
    · have l1 := num_len (n / 10) (by omega)
      have l2 := num_len (n % 10) (by omega)
      have s1 := bs_size (num (n / 10))
      have s2 := bs_size (num (n % 10))
      have hs : (bs (num (n / 10))).size + (bs (num (n % 10))).size ≤ 9223372036854775807 := by omega
      have I := Lib.hid (ih (k - 1) (by omega))
      clear ih s1 s2 l1 l2
      go_enter Tryd.func70, Tryd.ntmps70
      go_wp2_with (go_at_call 70; refine (I.out _ _ ?q1 ?q2 ?q3).mono ?_; (case q1 => omega); (case q2 => omega); (case q3 => omega); rintro e w' ⟨rfl, rfl⟩)
      go_ret
      exact ⟨ret_str (by rw [num_step n (by omega), ← bs_app]), rfl⟩
theorem spec_number (n : Int) (w : World) (h0 : 0 ≤ n) (h1 : n ≤ 9223372036854775807) :
    Calls Tryd.prog 70 #[.int .i64 n] w fun e w' => e = .returned (.string (bs (num n))) ∧ w = w' :=
  spec_number_at n.toNat n w (by omega) h0 h1
end Go.Proofs.YtfmmpggfphmlbaaDoor
