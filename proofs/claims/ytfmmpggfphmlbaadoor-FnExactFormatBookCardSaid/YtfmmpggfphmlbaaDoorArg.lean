/- What a slice that a law is given reads as, laid open to cells: numbers and events. No condition. -/
import Derived.Test.YtfmmpggfphmlbaaDoorBase
import Derived.ChangeSlices
import Derived.Deep.Slices
import Derived.OpenShut
namespace Go.Proofs.YtfmmpggfphmlbaaDoor
open Go.RowKit Go.Proofs.YtfmmpggfphmlbaaDoorW.PrintWords Go.ChangeShapes Go.WideShapes Go.Deep
set_option linter.unusedVariables false
set_option linter.unusedSimpArgs false
section
variable {H : Type} {enc : TypeId × Value → H} {P : Program} {w : World} {base : Nat} {held : Bool}
theorem C_of_trod {α : Type} (d : Kd α) (good : α → Prop) {t e : TypeId} {fuel : Nat} {cs : List Value} {x : DataW H × List MemPlace} (ht : P.underlying t = some (.slice e)) (hsz : P.cellsOf e = d.sz)
    (hel : ∀ n cs y, DataW.trod enc P w base (fun _ => true) held n e cs = some y → ∃ x, d.K w x cs ∧ good x)
    (h : DataW.trod enc P w base (fun _ => true) held fuel t cs = some x) :
    ∃ (A : Option Addr) (l : List α) (c : Nat), cs = [.slice A l.length c] ∧ l.length ≤ c ∧ d.C w A l.length l ∧ ∀ x ∈ l, good x := by
  rcases open_slice ht h with ⟨rfl, _⟩ | ⟨a, len, cap, m, n, D, Pl, rfl, hb, hl, hm, hmm, _, hi⟩
  · exact ⟨none, [], 0, rfl, Nat.le_refl _, ⟨rfl, by simp, fun h => absurd h (by simp)⟩, fun x hx => by simp at hx⟩
  · have hm' : m = cap := by simpa using hmm
    subst hm'
    have hx : ∀ i : Fin len, ∃ x : α, good x ∧ ∃ c, c.length = d.sz ∧ d.K w x c ∧ ∀ (j : Nat) (u : Value), c[j]? = some u → w.cell? (a.add (i.val * d.sz + j)) = some u := by
      intro ⟨i, hlt⟩
      obtain ⟨cs', hc, ht'⟩ := hi i (by omega)
      obtain ⟨x, hK, hg⟩ := hel _ _ _ ht'
      rw [hsz] at hc
      obtain ⟨_, hcl, hat⟩ := World.cells?_some hc
      refine ⟨x, hg, cs', hcl, hK, fun j u hj => ?_⟩
      have hjl : j < d.sz := by rw [← hcl]; exact (List.getElem?_eq_some_iff.1 hj).1
      rw [← Go.Deep.add_add, hat j hjl, hj]
    have hx' := fun i => Classical.choose_spec (hx i)
    refine ⟨some a, List.ofFn fun i : Fin len => Classical.choose (hx i), m, by simp, by simpa using hl, ⟨rfl, ?_, fun _ => ⟨a, rfl, fun j p hj => ?_⟩⟩, fun x hx1 => ?_⟩
    · have : maxLen = 9223372036854775807 := rfl
      simp; omega
    · obtain ⟨hj1, hj2⟩ := List.getElem?_eq_some_iff.1 hj
      have hjl : j < len := by simpa using hj1
      have hp : p = Classical.choose (hx ⟨j, hjl⟩) := by rw [← hj2]; simp
      rw [hp]
      exact (hx' ⟨j, hjl⟩).2
    · obtain ⟨i, rfl⟩ := List.mem_ofFn.1 hx1
      exact (hx' i).1
theorem is2 {α : Type} {l : List α} (h : l.length = 2) : ∃ a b, l = [a, b] := by
  match l, h with | [a, b], _ => exact ⟨a, b, rfl⟩
theorem is6 {α : Type} {l : List α} (h : l.length = 6) : ∃ a b c d e f, l = [a, b, c, d, e, f] := by
  match l, h with | [a, b, c, d, e, f], _ => exact ⟨a, b, c, d, e, f, rfl⟩
theorem is7 {α : Type} {l : List α} (h : l.length = 7) : ∃ a b c d e f g, l = [a, b, c, d, e, f, g] := by
  match l, h with | [a, b, c, d, e, f, g], _ => exact ⟨a, b, c, d, e, f, g, rfl⟩
/-- A number of Go's 'int'. -/
def I64 (n : Int) : Prop := -9223372036854775808 ≤ n ∧ n ≤ 9223372036854775807
theorem I64_of {n : Int} (h : (Lit.int .i64 n).wf = true) : I64 n := by
  simp only [Lit.wf, Bool.and_eq_true, decide_eq_true_eq] at h
  have h1 : IntKind.i64.min = -9223372036854775808 := by decide +kernel
  have h2 : IntKind.i64.max = 9223372036854775807 := by decide +kernel
  rw [h1, h2] at h
  exact h
theorem int_of_trod {t : TypeId} {fuel : Nat} {cs : List Value} {x : DataW H × List MemPlace} (ht : P.underlying t = some (.int .i64)) (h : DataW.trod enc P w base (fun _ => true) held fuel t cs = some x) : ∃ n, cs = [.int .i64 n] ∧ I64 n := by
  obtain ⟨n, rfl, _, hw⟩ := DataW.trod_int ht h
  exact ⟨n, rfl, I64_of hw⟩
theorem ints_of_trod {t e : TypeId} {fuel : Nat} {cs : List Value} {x : DataW H × List MemPlace} (ht : P.underlying t = some (.slice e)) (he : P.underlying e = some (.int .i64)) (hc : P.cellsOf e = 1) (h : DataW.trod enc P w base (fun _ => true) held fuel t cs = some x) :
    ∃ (A : Option Addr) (l : List Int) (c : Nat), cs = [.slice A l.length c] ∧ l.length ≤ c ∧ (Kd.int .i64).C w A l.length l ∧ ∀ x ∈ l, I64 x :=
  C_of_trod (Kd.int .i64) I64 ht hc (fun n cs y hy => by obtain ⟨n, rfl, hn⟩ := int_of_trod he hy; exact ⟨n, rfl, hn⟩) h
end
section
variable {H : Type} {enc : TypeId × Value → H} {w : World} {base : Nat} {held : Bool}
def I64E (e : Event) : Prop := I64 e.k ∧ I64 e.m ∧ I64 e.a ∧ I64 e.o ∧ (∀ x ∈ e.g, I64 x) ∧ I64 e.rn ∧ I64 e.rd
theorem event_of_trod {fuel : Nat} {cs : List Value} {x : DataW H × List MemPlace} (h : DataW.trod enc Tryd.prog w base (fun _ => true) held fuel 56 cs = some x) : ∃ x, kEvent.K w x cs ∧ I64E x := by
  obtain ⟨xs, n, _, _, hl, hlen, hf⟩ := DataW.trod_struct Tryd.underlying56 h
  have hc : Tryd.prog.cellsOf 56 = 7 := by kernel_rfl
  have c1 : Tryd.prog.cellsOf 3 = 1 := by kernel_rfl
  have c2 : Tryd.prog.cellsOf 42 = 1 := by kernel_rfl
  have c3 : Tryd.prog.cellsOf 54 = 2 := by kernel_rfl
  rw [hc] at hl
  obtain ⟨v0, v1, v2, v3, v4, v5, v6, rfl⟩ := is7 hl
  obtain ⟨y0, y1, y2, y3, y4, y5, rfl⟩ := is6 (show xs.length = 6 from hlen)
  · have f0 := hf 0 _ rfl
    have f1 := hf 1 _ rfl
    have f2 := hf 2 _ rfl
    have f3 := hf 3 _ rfl
    have f4 := hf 4 _ rfl
    have f5 := hf 5 _ rfl
    simp [c1] at f0 f1 f2 f3
    simp [c2] at f4
    simp [c3] at f5
    obtain ⟨n0, e0, g0⟩ := int_of_trod Tryd.underlying3 f0
    obtain ⟨n1, e1, g1⟩ := int_of_trod Tryd.underlying3 f1
    obtain ⟨n2, e2, g2⟩ := int_of_trod Tryd.underlying3 f2
    obtain ⟨n3, e3, g3⟩ := int_of_trod Tryd.underlying3 f3
    obtain ⟨A, l, c, e4, hlc, hC, g4⟩ := ints_of_trod Tryd.underlying42 Tryd.underlying3 c1 f4
    obtain ⟨zs, n', _, _, hl5, hlen5, hf5⟩ := DataW.trod_struct Tryd.underlying54 f5
    obtain ⟨z0, z1, rfl⟩ := is2 (show zs.length = 2 from hlen5)
    · have f50 := hf5 0 _ rfl
      have f51 := hf5 1 _ rfl
      simp [c1] at f50 f51
      obtain ⟨n5, e5, g5⟩ := int_of_trod Tryd.underlying3 f50
      obtain ⟨n6, e6, g6⟩ := int_of_trod Tryd.underlying3 f51
      injection e0 with e0; injection e1 with e1; injection e2 with e2; injection e3 with e3; injection e4 with e4; injection e5 with e5; injection e6 with e6
      subst e0 e1 e2 e3 e4 e5 e6
      exact ⟨⟨n0, n1, n2, n3, l, n5, n6⟩, kEvent_mk w ⟨n0, n1, n2, n3, l, n5, n6⟩ hlc hC, g0, g1, g2, g3, g4, g5, g6⟩
theorem events_of_trod {fuel : Nat} {cs : List Value} {x : DataW H × List MemPlace} (h : DataW.trod enc Tryd.prog w base (fun _ => true) held fuel 22 cs = some x) :
    ∃ (A : Option Addr) (l : List Event) (c : Nat), cs = [.slice A l.length c] ∧ l.length ≤ c ∧ kEvent.C w A l.length l ∧ ∀ x ∈ l, I64E x :=
  C_of_trod kEvent I64E Tryd.underlying22 (by kernel_rfl) (fun n cs y hy => event_of_trod hy) h
end
end Go.Proofs.YtfmmpggfphmlbaaDoor
