/- What the rows of this seat share: the listed package variables as the walks want them, the witness's world, the argument's reading. The variables as laid. -/
import Derived.Test.YtfmmpggfphmlbaaDoorLaid
import Derived.Test.YtfmmpggfphmlbaaDoorArg
import Derived.Test.YtfmmpggfphmlbaaDoorRows
import Derived.WalkKit
import Derived.ProofKit
import Derived.OpenShut
import Derived.LaidMore
import Derived.LaidSub
import Derived.Carry
import Derived.ChangeVars
import Derived.Deep.DeepHandedRow
import Derived.Lib.LaidTab
namespace Go.Proofs.YtfmmpggfphmlbaaDoor
open Go.ChangeShapes Go.WideShapes Go.ChangeAt Go.RowKit Go.Proofs.YtfmmpggfphmlbaaDoorW.PrintWords
set_option linter.unusedVariables false
set_option linter.unusedSimpArgs false
theorem own : ownKnob Tryd.prog.godebug = none := by kernel_rfl
theorem laidOut : laidOutB Tryd.prog = true := by kernel_rfl
theorem laid_get {P : Program} {W : World} {l : List (String × DataW Unit)} (n : String) (x : DataW Unit) (h : laidMetH P l W) (hl : (l.filter fun y => y.1 == n) = [(n, x)]) (hx : x.handleName? = none) : laidMet P [(n, x)] W := by
  have h1 := laidMetH.filter (fun y => y.1 == n) h
  rw [hl] at h1
  have h2 := (laidMetH_iff.1 h1).1
  simpa [hx] using h2
theorem tab_of {W : World} {l : List (String × DataW Unit)} (h : laidMetH Tryd.prog l W) (hl : (l.filter fun y => y.1 == "internal/strconv.uint64pow10") = [("internal/strconv.uint64pow10", Rows.laid_internal_strconv_uint64pow10)]) : Lib.TabIs Tryd.prog W "internal/strconv.uint64pow10" .u64 Lib.pow10Tab :=
  Lib.tabIs_of_head (rest := []) g_tab (by kernel_rfl) Tryd.underlying134 Tryd.underlying119 (by kernel_rfl) (by kernel_rfl) (laid_get _ _ h hl rfl)
theorem str_of_trod {H : Type} {enc : TypeId × Value → H} {w : World} {base : Nat} {sp : Nat → Bool} {held : Bool} {fuel : Nat} {c : Value} {y : DataW H × List MemPlace}
    (h : DataW.trod enc Tryd.prog w base sp held fuel 9 [c] = some y) : ∃ s : ByteArray, c = .string s ∧ y = (.lit (.string s.data.toList), []) := by
  obtain ⟨s, hc, hy, _⟩ := DataW.trod_string Tryd.underlying9 h
  simp only [List.cons.injEq, and_true] at hc
  exact ⟨s, hc, hy⟩
theorem ba_of_list {s : ByteArray} {l : List UInt8} (h : s.data.toList = l) : s = bs l := by rw [← h]; simp [bs]
theorem gNamesType : (Tryd.prog.globals[0]?).map (·.type) = some 86 := by kernel_rfl
theorem names_of {W : World} {l : List (String × DataW Unit)} (h : laidMetH Tryd.prog l W) (hl : (l.filter fun y => y.1 == "loop.example/savingsclub/impl.kindNames") = [("loop.example/savingsclub/impl.kindNames", Rows.laid_loop_example_savingsclub_impl_kindNames)]) : W.var? Tryd.prog "loop.example/savingsclub/impl.kindNames" = some kindNames := by
  obtain ⟨ps, ⟨g, t, cs, fuel, p, q, hg, ht, hvar, hd, _, _⟩, _⟩ := laid_get _ _ h hl rfl
  obtain rfl := Option.some.inj (g_names.symm.trans hg)
  obtain rfl := Option.some.inj (gNamesType.symm.trans ht)
  rw [hvar]
  congr 1
  have cA : Tryd.prog.cellsOf 86 = 8 := by kernel_rfl
  have cS : Tryd.prog.cellsOf 9 = 1 := by kernel_rfl
  obtain ⟨l⟩ := cs
  cases fuel with
  | zero => simp [DataW.trod] at hd
  | succ fuel =>
    simp only [DataW.trod, Tryd.underlying86, cA, cS] at hd
    split at hd
    · rename_i hl
      obtain ⟨c0, c1, c2, c3, c4, c5, c6, c7, rfl⟩ : ∃ c0 c1 c2 c3 c4 c5 c6 c7, l = [c0, c1, c2, c3, c4, c5, c6, c7] := by
        match l, hl with
        | [a, b, c, d, e, f, g, h], _ => exact ⟨a, b, c, d, e, f, g, h, rfl⟩
      have e : List.range 8 = [0, 1, 2, 3, 4, 5, 6, 7] := rfl
      rw [e] at hd
      simp only [Option.map_eq_some_iff, List.mapM_cons, List.mapM_nil, Option.bind_eq_bind, Option.bind_eq_some_iff, Option.pure_def, Option.some.injEq] at hd
      obtain ⟨xs, ⟨y0, h0, _, ⟨y1, h1, _, ⟨y2, h2, _, ⟨y3, h3, _, ⟨y4, h4, _, ⟨y5, h5, _, ⟨y6, h6, _, ⟨y7, h7, _, rfl, rfl⟩, rfl⟩, rfl⟩, rfl⟩, rfl⟩, rfl⟩, rfl⟩, rfl⟩, hx⟩ := hd
      obtain ⟨n0, rfl, rfl⟩ := str_of_trod h0
      obtain ⟨n1, rfl, rfl⟩ := str_of_trod h1
      obtain ⟨n2, rfl, rfl⟩ := str_of_trod h2
      obtain ⟨n3, rfl, rfl⟩ := str_of_trod h3
      obtain ⟨n4, rfl, rfl⟩ := str_of_trod h4
      obtain ⟨n5, rfl, rfl⟩ := str_of_trod h5
      obtain ⟨n6, rfl, rfl⟩ := str_of_trod h6
      obtain ⟨n7, rfl, rfl⟩ := str_of_trod h7
      simp [Rows.laid_loop_example_savingsclub_impl_kindNames] at hx
      obtain ⟨⟨e0, e1, e2, e3, e4, e5, e6, e7⟩, _⟩ := hx
      rw [ba_of_list e0, ba_of_list e1, ba_of_list e2, ba_of_list e3, ba_of_list e4, ba_of_list e5, ba_of_list e6, ba_of_list e7]
      rfl
    · cases hd
theorem laid_of {W : World} {l : List (String × DataW Unit)} (h : laidMetH Tryd.prog l W) (h1 : (l.filter fun y => y.1 == "internal/strconv.uint64pow10") = [("internal/strconv.uint64pow10", Rows.laid_internal_strconv_uint64pow10)])
    (h2 : (l.filter fun y => y.1 == "loop.example/savingsclub/impl.kindNames") = [("loop.example/savingsclub/impl.kindNames", Rows.laid_loop_example_savingsclub_impl_kindNames)]) : Laid W := ⟨tab_of h h1, names_of h h2⟩
theorem var_below {n : String} {g : Nat} {cs : Array Value} {W W' : World} (hg : Tryd.prog.globalNamed n = some g) (hv : W.var? Tryd.prog n = some cs) (bel : Below W.heap.size W W') : W'.var? Tryd.prog n = some cs := var_keep hg hv bel
theorem names_below {H : Type} {enc : TypeId × Value → H} {g : Nat} {t : TypeId} {cs : List Value} {fuel : Nat} {d : DataW H} {p : List MemPlace} {W W' : World} (hg : Tryd.prog.globalNamed "loop.example/savingsclub/impl.kindNames" = some g) (ht : (Tryd.prog.globals[g]?).map (·.type) = some t)
    (bel : Below W.heap.size W W') (hlt : ∀ x ∈ p, x.block < W.heap.size) (hd : DataW.trod enc Tryd.prog W 0 (fun _ => true) true fuel t cs = some (d, p)) :
    DataW.trod enc Tryd.prog W' 0 (fun b => decide (b < W.heap.size)) true fuel t cs = some (d, p) := by
  obtain rfl := Option.some.inj (g_names.symm.trans hg)
  obtain rfl := Option.some.inj (gNamesType.symm.trans ht)
  exact DataW.trod_stays (kids_book laidOut (by kernel_rfl : Tryd.prog.readableRec 86 = true)) (book_sized (by kernel_rfl)) (fun h => by cases h) ⟨of_decide_eq_true (by kernel_rfl), book_self _⟩ hd (fun x hx => bel.same (hlt x hx)) (fun x hx => by simpa using hlt x hx)
theorem events_arg {H : Type} {enc : TypeId × Value → H} {W : World} {v : Value} {d : DataW H} {p : List MemPlace} (h : DataW.Trod enc Tryd.prog W 0 (fun _ => true) true 22 v d p) (hv : ∃ a len cap, v = .slice a len cap) :
    ∃ (A : Option Addr) (l : List Event) (c : Nat), v = .slice A l.length c ∧ l.length ≤ c ∧ kEvent.C W A l.length l ∧ ∀ x ∈ l, I64E x := by
  obtain ⟨a, len, cap, rfl⟩ := hv
  obtain ⟨fuel, hf⟩ := h
  obtain ⟨A, l, c, he, hlc, hC, hi⟩ := events_of_trod hf
  simp [Value.cells] at he
  obtain ⟨rfl, rfl, rfl⟩ := he
  exact ⟨_, l, _, rfl, hlc, hC, hi⟩
noncomputable def door (os : Os) : World := World.doorLaid Tryd.prog 3000 os
end Go.Proofs.YtfmmpggfphmlbaaDoor
