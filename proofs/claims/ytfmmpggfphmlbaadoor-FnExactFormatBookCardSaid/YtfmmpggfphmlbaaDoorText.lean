/- The texts of numbers, amounts, events and books as plain lists of bytes. No program in sight. -/
import Derived.Test.YtfmmpggfphmlbaaDoorBase
import Derived.Lib.ItoaLen
namespace Go.Proofs.YtfmmpggfphmlbaaDoor
open Go.RowKit Go.Proofs.YtfmmpggfphmlbaaDoorW.PrintWords
set_option linter.unusedVariables false
set_option linter.unusedSimpArgs false
theorem nb {a b : Int} (h : a ≠ b) : (a == b) = false := beq_eq_false_iff_ne.2 h
abbrev Bs := List UInt8
def bs (l : Bs) : ByteArray := ⟨l.toArray⟩
theorem bs_size (l : Bs) : (bs l).size = l.length := by simp [bs, ByteArray.size]
theorem bs_app (a b : Bs) : bs a ++ bs b = bs (a ++ b) := by
  apply ByteArray.ext; rw [ByteArray.data_append]; simp [bs]
theorem c_dot : (⟨#[46]⟩ : ByteArray) = bs [46] := rfl
theorem bs_list (l : Bs) : (bs l).data.toList = l := by simp [bs]
theorem bs_toList (l : Bs) : (bs l).toList = l := by rw [ByteArray.toList_eq]; exact bs_list l
theorem bs_inj {a b : Bs} (h : bs a = bs b) : a = b := by have := congrArg (fun s : ByteArray => s.data.toList) h; simpa [bs_list] using this
theorem bs_of (s : ByteArray) : s = bs s.data.toList := by cases s; simp [bs]
def num (n : Int) : Bs := Lib.decDigits n.toNat
theorem num_len (n : Int) (h : n ≤ 9223372036854775807) : (num n).length ≤ 20 := by
  unfold num; rw [Lib.decDigits_length]; exact Lib.nDigits_le20 _ (by omega)
theorem num_pos (n : Int) : 1 ≤ (num n).length := by unfold num; rw [Lib.decDigits_length]; exact Lib.nDigits_pos _
def money (n : Int) : Bs := num (n / 100) ++ [46] ++ num (n / 10 % 10) ++ num (n % 10)
def rng (lo hi n : Int) : Bool := decide (lo ≤ n ∧ n ≤ hi)
theorem rng_t {lo hi n : Int} (h : rng lo hi n = true) : lo ≤ n ∧ n ≤ hi := of_decide_eq_true h
theorem rng_f {lo hi n : Int} (h : rng lo hi n = false) : ¬ (lo ≤ n ∧ n ≤ hi) := of_decide_eq_false h
def vRate (a b : Int) : Bool := rng 1 1000 b && rng 0 b a
def vAm (n : Int) : Bool := rng 0 1000000 n
def wJoin : Bs := [106, 111, 105, 110]
def wSave : Bs := [115, 97, 118, 101]
def wTake : Bs := [116, 97, 107, 101]
def wLend : Bs := [108, 101, 110, 100]
def wRepay : Bs := [114, 101, 112, 97, 121]
def wFail : Bs := [102, 97, 105, 108]
def wNight : Bs := [110, 105, 103, 104, 116]
def wShare : Bs := [115, 104, 97, 114, 101]
def spn (n : Int) : Bs := 32 :: num n
def spm (n : Int) : Bs := 32 :: money n
/-- The text of an event, empty if it has none. -/
def showE (e : Event) : Bs :=
  if e.k = 0 then wJoin else if e.k = 7 then wShare else if e.k = 6 then (if vRate e.rn e.rd then wNight ++ spn e.rn ++ spn e.rd else [])
  else if rng 0 99 e.m then
    (if e.k = 5 then wFail ++ spn e.m
     else if vAm e.a then
      (if e.k = 1 then wSave ++ spn e.m ++ spm e.a
       else if e.k = 2 then wTake ++ spn e.m ++ spm e.a
       else if e.k = 4 then (if vAm e.o then wRepay ++ spn e.m ++ spm e.a ++ spm e.o else [])
       else if e.k = 3 then (if e.g.all (rng 0 99) then wLend ++ spn e.m ++ spm e.a ++ e.g.flatMap spn else [])
       else [])
     else [])
  else []
theorem c_sp : (⟨#[32]⟩ : ByteArray) = bs [32] := rfl
theorem c_night : (⟨#[110, 105, 103, 104, 116, 32]⟩ : ByteArray) = bs (wNight ++ [32]) := rfl
theorem c_fail : (⟨#[102, 97, 105, 108, 32]⟩ : ByteArray) = bs (wFail ++ [32]) := rfl
theorem c_save : (⟨#[115, 97, 118, 101, 32]⟩ : ByteArray) = bs (wSave ++ [32]) := rfl
theorem c_take : (⟨#[116, 97, 107, 101, 32]⟩ : ByteArray) = bs (wTake ++ [32]) := rfl
theorem c_repay : (⟨#[114, 101, 112, 97, 121, 32]⟩ : ByteArray) = bs (wRepay ++ [32]) := rfl
theorem c_lend : (⟨#[108, 101, 110, 100, 32]⟩ : ByteArray) = bs (wLend ++ [32]) := rfl
theorem c_join : (⟨#[106, 111, 105, 110]⟩ : ByteArray) = bs wJoin := rfl
theorem c_share : (⟨#[115, 104, 97, 114, 101]⟩ : ByteArray) = bs wShare := rfl
theorem c_none : (⟨#[]⟩ : ByteArray) = bs [] := rfl
theorem money_len (n : Int) (h : n ≤ 9223372036854775807) (h0 : 0 ≤ n) : (money n).length ≤ 61 := by
  have h1 := num_len (n / 100) (by omega)
  have h2 := num_len (n / 10 % 10) (by omega)
  have h3 := num_len (n % 10) (by omega)
  simp [money]; omega
theorem spn_len (n : Int) (h : n ≤ 9223372036854775807) : (spn n).length ≤ 21 := by have := num_len n h; simp [spn]; omega
theorem spm_len (n : Int) (h : n ≤ 9223372036854775807) (h0 : 0 ≤ n) : (spm n).length ≤ 62 := by have := money_len n h h0; simp [spm]; omega
theorem flat_spn_len (l : List Int) (h : ∀ x ∈ l, x ≤ 9223372036854775807) : (l.flatMap spn).length ≤ 21 * l.length := by
  induction l with
  | nil => simp
  | cons x l ih =>
    have h1 := spn_len x (h x (by simp))
    have h2 := ih (fun y hy => h y (by simp [hy]))
    simp only [List.flatMap_cons, List.length_append, List.length_cons]; omega
theorem all_mem {l : List Int} {lo hi : Int} (h : l.all (rng lo hi) = true) : ∀ x ∈ l, lo ≤ x ∧ x ≤ hi := fun x hx => rng_t (List.all_eq_true.1 h x hx)
theorem ite_len {p : Prop} [Decidable p] {a b : Bs} {n : Nat} (h1 : p → a.length ≤ n) (h2 : ¬ p → b.length ≤ n) : (if p then a else b).length ≤ n := by
  by_cases h : p
  · rw [if_pos h]; exact h1 h
  · rw [if_neg h]; exact h2 h
theorem showE_len (e : Event) : (showE e).length ≤ 200 + 21 * e.g.length := by
  unfold showE
  refine ite_len (fun _ => by simp [wJoin]; omega) fun _ => ?_
  refine ite_len (fun _ => by simp [wShare]; omega) fun _ => ?_
  refine ite_len (fun _ => ite_len (fun h => ?_) fun _ => by simp) fun _ => ?_
  · simp only [vRate, Bool.and_eq_true] at h
    have h1 := rng_t h.1; have h2 := rng_t h.2
    have l1 := spn_len e.rn (by omega); have l2 := spn_len e.rd (by omega)
    simp [wNight]; omega
  refine ite_len (fun hm => ?_) fun _ => by simp
  have hm := rng_t hm
  have l1 := spn_len e.m (by omega)
  refine ite_len (fun _ => by simp [wFail]; omega) fun _ => ?_
  refine ite_len (fun ha => ?_) fun _ => by simp
  have ha := rng_t ha
  have l2 := spm_len e.a (by omega) (by omega)
  refine ite_len (fun _ => by simp [wSave]; omega) fun _ => ?_
  refine ite_len (fun _ => by simp [wTake]; omega) fun _ => ?_
  refine ite_len (fun _ => ite_len (fun ho => ?_) fun _ => by simp) fun _ => ?_
  · have ho := rng_t ho
    have l3 := spm_len e.o (by omega) (by omega)
    simp [wRepay]; omega
  refine ite_len (fun _ => ite_len (fun hg => ?_) fun _ => by simp) fun _ => by simp
  have l3 := flat_spn_len e.g (fun x hx => by have := all_mem hg x hx; omega)
  simp [wLend]; simp at l3; omega
def showB (l : List Event) : Bs := if l.length > 30 then [] else if l.all (fun e => !(showE e).isEmpty) then l.flatMap (fun e => showE e ++ [10]) else []
theorem all_take {l : List Int} {k : Nat} {x : Int} {p : Int → Bool} (h : l[k]? = some x) : (l.take (k + 1)).all p = ((l.take k).all p && p x) := by rw [take_snoc h]; simp
theorem all_no {l : List Int} {k : Nat} {x : Int} {p : Int → Bool} (h : l[k]? = some x) (hp : p x = false) : l.all p = false := List.all_eq_false.2 ⟨x, mem_of_at h, by simp [hp]⟩
end Go.Proofs.YtfmmpggfphmlbaaDoor
