/- What the package variables that the texts need hold, and that it stays. -/
import Derived.Test.YtfmmpggfphmlbaaDoorText
import Derived.Test.YtfmmpggfphmlbaaDoorShelf
import Derived.WalkSmall
import Derived.Lib.LaidTab
namespace Go.Proofs.YtfmmpggfphmlbaaDoor
open Go.RowKit Go.Proofs.YtfmmpggfphmlbaaDoorW.PrintWords
set_option linter.unusedVariables false
set_option linter.unusedSimpArgs false
def vNames : String := "loop.example/savingsclub/impl.kindNames"
def kindNames : Array Value := #[.string (bs wJoin), .string (bs wSave), .string (bs wTake), .string (bs wLend), .string (bs wRepay), .string (bs wFail), .string (bs wNight), .string (bs wShare)]
structure Laid (w : World) : Prop where
  tab : Lib.TabIs Tryd.prog w "internal/strconv.uint64pow10" .u64 Lib.pow10Tab
  names : w.var? Tryd.prog "loop.example/savingsclub/impl.kindNames" = some kindNames
theorem var_lt {w : World} {n : String} {cs : Array Value} {g : Nat} (hg : Tryd.prog.globalNamed n = some g) (hv : w.var? Tryd.prog n = some cs) : g < w.heap.size := by
  unfold World.var? at hv
  simp only [hg, Option.bind_some] at hv
  rcases Nat.lt_or_ge g w.heap.size with h | h
  · exact h
  · rw [Array.getElem?_eq_none h] at hv; simp at hv
theorem var_keep {w w1 : World} {n : String} {cs : Array Value} {g : Nat} (hg : Tryd.prog.globalNamed n = some g) (hv : w.var? Tryd.prog n = some cs) (hb : Below w.heap.size w w1) : w1.var? Tryd.prog n = some cs :=
  var?_below hb hg (var_lt hg hv) hv
theorem g_tab : Tryd.prog.globalNamed "internal/strconv.uint64pow10" = some 2 := by kernel_rfl
theorem g_names : Tryd.prog.globalNamed "loop.example/savingsclub/impl.kindNames" = some 0 := by kernel_rfl
theorem Laid.below {w w1 : World} (h : Laid w) (hb : Below w.heap.size w w1) : Laid w1 := ⟨var_keep g_tab h.tab hb, var_keep g_names h.names hb⟩
theorem below_grow {w : World} {k : Nat} {os : Array Obj} : Below w.heap.size w (Go.Sort.grow (w.drewN k) os) := by
  refine below_step (pw_below_drewN (Below.refl _ _) k) ⟨rfl, rfl, rfl, by simp [Go.Sort.grow], fun i hi => ?_⟩
  show ((w.drewN k).heap ++ os)[i]? = _
  rw [Array.getElem?_append_left hi]
/-- strconv.Itoa at a number of at least 0. -/
theorem itoa_any (n : Int) (w : World) (hL : Laid w) (h0 : 0 ≤ n) (h1 : n ≤ 9223372036854775807) :
    Calls Tryd.prog 43 #[.int .i64 n] w fun e w' => e = .returned (.string (bs (num n))) ∧ Below w.heap.size w w' := by
  refine (Go.Proofs.Tryd.strconv_Itoa n (by omega) h1 w hL.tab).mono ?_
  rintro e w' ⟨rfl, k, os, rfl⟩
  exact ⟨by rw [Lib.itoa, if_neg (by omega)]; rfl, below_grow⟩
end Go.Proofs.YtfmmpggfphmlbaaDoor
