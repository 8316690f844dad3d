/- What the program writes for numbers of members. Fewer than 2^40 of them. -/
import Derived.Test.YtfmmpggfphmlbaaDoorImplA
namespace Go.Proofs.YtfmmpggfphmlbaaDoor
open Go.RowKit Go.Proofs.YtfmmpggfphmlbaaDoorW.PrintWords
set_option linter.unusedVariables false
set_option linter.unusedSimpArgs false
theorem cells_bs (t : Bs) : Lib.strCells (bs t) = Lib.byteCells t := by simp [Lib.strCells, Lib.byteCells, bs]
theorem bytes_app (a b : Bs) : Lib.byteCells a ++ Lib.byteCells b = Lib.byteCells (a ++ b) := by simp [Lib.byteCells]
theorem build_below {T e : TypeId} {B b : Nat} {xs : List Value} {w w1 : World} (h : Lib.IsBuilder T e B b xs w) (hb : Below w.heap.size w w1) : Lib.IsBuilder T e B b xs w1 := by
  have at_ : ∀ {p : Value}, Lib.BuilderAt T e B b p xs w → Lib.BuilderAt T e B b p xs w1 := by
    rintro p ⟨h0, v, h1, h2, h3⟩
    exact ⟨h0, v, blk_below h1 hb, pw_own_below h2 hb, h3⟩
  exact h.elim (fun h => .inl (at_ h)) (fun h => .inr (at_ h))
theorem itoa_small (n : Int) (w : World) (h0 : 0 ≤ n) (h1 : n < 100) :
    Calls Tryd.prog 43 #[.int .i64 n] w fun e w' => e = .returned (.string (bs (num n))) ∧ w = w' := by
  obtain ⟨u, rfl⟩ := Int.eq_ofNat_of_zero_le h0
  refine (Go.Proofs.Tryd.strconv_Itoa_small u (by omega) w).mono ?_
  rintro e w' ⟨rfl, rfl⟩
  exact ⟨by simp [num, bs], rfl⟩
def memT (l : List Int) : Bs := if l.all (rng 0 99) then l.flatMap spn else []
section
attribute [local go_sem] bs_size
set_option maxRecDepth 100000 in
set_option maxHeartbeats 1000000 in
theorem impl_showMembers (l : List Int) (A : Option Addr) (c : Nat) (w : World) (hr : (Kd.int .i64).C w A l.length l) (hn : l.length ≤ 1099511627776) :
    Calls Tryd.prog 92 #[.slice A l.length c] w fun e w' => e = .returned (.tuple #[.string (bs (memT l)), .bool (l.all (rng 0 99))]) ∧ Below w.heap.size w w' := by
  have HR := Aside0.mk hr
  clear hr
  go_enter Tryd.func92, Tryd.ntmps92
  go_wp2
  have HI := Aside0.mk (Lib.fresh_isBuilder 61 5 w)
  go_loopw [9] (fun i wr => ∃ k : Nat, i = .int .i64 k ∧ k ≤ l.length ∧ Aside0 ((l.take k).all (rng 0 99) = true) ∧ Aside0 (Lib.IsBuilder 61 5 w.heap.size w.heap.size (Lib.byteCells ((l.take k).flatMap spn)) wr) ∧ Aside0 (Below w.heap.size w wr)) (fun i _ => l.length - (intOf i).toNat)
  case atStart => exact ⟨0, rfl, Nat.zero_le _, ⟨rfl⟩, ⟨HI.out⟩, ⟨(by repeat (first | (with_reducible first | exact Below.refl _ _ | apply below_alloc | apply pw_below_drewN | apply below_drew1 | refine below_step ?_ (by assumption)) | (with_reducible refine below_set ?_ (by omega))))⟩⟩
  case round =>
    clear HI
    obtain ⟨k, rfl, hk, hp, HI, HB⟩ := hrel
    by_cases hlt : k < l.length
    · obtain ⟨x, ad, hx, rfl, hcell⟩ := at_nat (Kd.C_below HR.out HB.out) k hlt
      have HP := Lib.hid (all_take (p := rng 0 99) hx.out)
      have HN := Lib.hid (take_snoc hx.out)
      have hL := flat_spn_len (l.take k) (fun y hy => by have := all_mem hp.out y hy; omega)
      have hT : (l.take k).length ≤ 1099511627776 := by rw [List.length_take]; omega
      have hS : ((l.take k).flatMap spn).length ≤ 21 * 1099511627776 := by exact Nat.le_trans hL (Nat.mul_le_mul_left _ hT)
      clear hL
      by_cases h0 : x < 0
      · have hi : rng 0 99 x = false := decide_eq_false (by omega)
        have hi := Lib.hid (all_no hx.out hi)
        go_wp2_with fail
        go_ret2
        exact ⟨by rw [memT, hi.out]; rfl, HB.out⟩
      by_cases h1 : 99 < x
      · have hi : rng 0 99 x = false := decide_eq_false (by omega)
        have hi := Lib.hid (all_no hx.out hi)
        go_wp2_with fail
        go_ret2
        exact ⟨by rw [memT, hi.out]; rfl, HB.out⟩
      have hi := Lib.hid (show rng 0 99 x = true from decide_eq_true (by omega))
      have l3 := num_len x (by omega)
      go_wp2_with (go_at_call 43; refine (itoa_small _ _ ?q1 ?q2).mono ?_; (case q1 => omega); (case q2 => omega); rintro q w' ⟨rfl, rfl⟩)
      go_at_call 39
      refine (writeString_any w.heap.size w.heap.size (Lib.byteCells ((l.take k).flatMap spn)) _ _ HI.out ?q3 HB.out.size).mono ?_
      case q3 =>
        rw [Lib.byteCells_length, ByteArray.size_append, bs_size]
        have : (⟨#[32]⟩ : ByteArray).size = 1 := rfl
        omega
      rintro q w2 ⟨rfl, hI2, hb2⟩
      have HJ : Aside0 (Lib.IsBuilder 61 5 w.heap.size w.heap.size (Lib.byteCells ((l.take (k + 1)).flatMap spn)) w2) := ⟨by
        rw [show (⟨#[32]⟩ : ByteArray) = bs [32] from rfl, bs_app, cells_bs, bytes_app] at hI2
        rw [HN.out, List.flatMap_append]
        simpa [spn] using hI2⟩
      have HB2 := Aside0.mk (HB.out.trans hb2)
      clear hI2 hb2
      go_wp2
      go_roundw
      case rel => exact ⟨k + 1, by go_num, by omega, ⟨by rw [HP.out, hp.out, hi.out]; rfl⟩, HJ, HB2⟩
      case measure => simp [intOf]; omega
    · go_wp2_with fail
      go_at_call 40
      refine (Go.Proofs.Tryd.Builder_String_any w.heap.size w.heap.size ((l.take k).flatMap spn) _ HI.out HB.out.size).mono ?_
      rintro q w2 ⟨rfl, hb2⟩
      go_wp2
      go_ret2
      exact ⟨by have h1 := hp.out; rw [List.take_of_length_le (by omega)] at h1 ⊢; rw [memT, h1]; rfl, HB.out.trans hb2⟩
end
end Go.Proofs.YtfmmpggfphmlbaaDoor
