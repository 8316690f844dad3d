/- Words of this claim: kinds of the program's records, how their rows read, small laws. No condition. -/
import Derived.Test.YtfmmpggfphmlbaaDoorProg
import Derived.Test.YtfmmpggfphmlbaaDoorWAt
import Derived.Lib.Hide
import Derived.Deep.CutRange
namespace Go.Proofs.YtfmmpggfphmlbaaDoor
open Go.RowKit Go.Proofs.YtfmmpggfphmlbaaDoorW.PrintWords
set_option linter.unusedVariables false
set_option linter.unusedSimpArgs false

theorem ret_bool {a b : Bool} (h : a = b) : Ending.returned (.bool a) = .returned (.bool b) := by rw [h]
theorem ret_int {k : IntKind} {a b : Int} (h : a = b) : Ending.returned (.int k a) = .returned (.int k b) := by rw [h]
theorem ret_str {a b : ByteArray} (h : a = b) : Ending.returned (.string a) = .returned (.string b) := by rw [h]
theorem at_nat {w : World} {A : Option Addr} {n : Nat} {k : IntKind} {xs : List Int} (h : (Kd.int k).C w A n xs) (i : Nat) (h1 : i < n) : ∃ x ad, Aside0 (xs[i]? = some x) ∧ A = some ad ∧ w.cell? (ad.add i) = some (.int k x) := by
  obtain ⟨ad, e, hc⟩ := Kd.at_int h (i : Int) (by omega) (by omega)
  have hl : i < xs.length := by have := h.1; omega
  refine ⟨xs[i], ad, ⟨List.getElem?_eq_getElem hl⟩, e, ?_⟩
  have : rd xs (i : Int) = xs[i] := by simp [rd, hl]
  rw [← this]; exact hc
theorem take_snoc {α : Type} {l : List α} {k : Nat} {x : α} (h : l[k]? = some x) : l.take (k + 1) = l.take k ++ [x] := by
  obtain ⟨hk, rfl⟩ := List.getElem?_eq_some_iff.1 h
  exact List.take_succ_eq_append_getElem hk
theorem mem_of_at {α : Type} {l : List α} {k : Nat} {x : α} (h : l[k]? = some x) : x ∈ l := List.mem_of_getElem? h
theorem below_drewN {B : Nat} {a w : World} (h : Below B a w) (n : Nat) : Below B a (w.drewN n) := ⟨h.os, h.tape, h.output, h.size, h.block⟩
theorem C_drewN {α : Type} {d : Kd α} {w : World} {A : Option Addr} {n : Nat} {xs : List α} (h : d.C w A n xs) (m : Nat) : d.C (w.drewN m) A n xs := Kd.C_below h (below_drewN (Below.refl _ _) m)

theorem bcell {W w1 : World} (hb : Below W.heap.size W w1) : (∀ b o, b < W.heap.size → w1.cell? ⟨b, o, none⟩ = W.cell? ⟨b, o, none⟩) ∧ (∀ b o, b < W.heap.size → w1.frozen? ⟨b, o, none⟩ = W.frozen? ⟨b, o, none⟩) :=
  ⟨fun b o h => hb.cell (p := ⟨b, o, none⟩) h, fun b o h => hb.frozen (p := ⟨b, o, none⟩) h⟩

theorem new_at (W : World) (o : Obj) (n : Nat) (h : n = W.heap.size) : (W.alloc o).heap[n]? = some o := by subst h; exact heap_alloc_new W o
structure Event where
  k : Int
  m : Int
  a : Int
  o : Int
  g : List Int
  rn : Int
  rd : Int
def zEvent : Event := ⟨0, 0, 0, 0, [], 0, 0⟩
def kEvent : Kd Event := Kd.iso (Kd.pair (Kd.int .i64) (Kd.pair (Kd.int .i64) (Kd.pair (Kd.int .i64) (Kd.pair (Kd.int .i64) (Kd.pair (Kd.slice 3 (Kd.int .i64)) (Kd.pair (Kd.int .i64) (Kd.int .i64))))))) (fun x : Event => (x.k, x.m, x.a, x.o, x.g, x.rn, x.rd))
theorem kEvent_open {w : World} {x : Event} {cs : List Value} (h : kEvent.K w x cs) : ∃ A c, cs = [.int .i64 x.k, .int .i64 x.m, .int .i64 x.a, .int .i64 x.o, .slice A x.g.length c, .int .i64 x.rn, .int .i64 x.rd] ∧ x.g.length ≤ c ∧ (Kd.int .i64).C w A x.g.length x.g := by
  obtain ⟨_, _, rfl, rfl, _, _, rfl, rfl, _, _, rfl, rfl, _, _, rfl, rfl, _, _, rfl, ⟨A, c, rfl, hl, hc⟩, _, _, rfl, rfl, rfl⟩ := h
  exact ⟨A, c, rfl, hl, hc⟩
theorem kEvent_mk (w : World) (x : Event) {A : Option Addr} {c : Nat} (hl : x.g.length ≤ c) (hc : (Kd.int .i64).C w A x.g.length x.g) : kEvent.K w x [.int .i64 x.k, .int .i64 x.m, .int .i64 x.a, .int .i64 x.o, .slice A x.g.length c, .int .i64 x.rn, .int .i64 x.rd] :=
  ⟨[_], _, rfl, rfl, [_], _, rfl, rfl, [_], _, rfl, rfl, [_], _, rfl, rfl, [_], _, rfl, ⟨A, c, rfl, hl, hc⟩, [_], _, rfl, rfl, rfl⟩
theorem at_event {w : World} {A : Option Addr} {n : Nat} {xs : List Event} (h : kEvent.C w A n xs) (i : Nat) (h1 : i < n) :
    ∃ x ad A1 c1, Aside0 (xs[i]? = some x) ∧ A = some ad ∧ w.cell? (ad.add (i * 7)) = some (.int .i64 x.k) ∧ w.cell? ⟨(ad.add (i * 7)).block, (ad.add (i * 7)).off + 1, none⟩ = some (.int .i64 x.m) ∧
      w.cell? ⟨(ad.add (i * 7)).block, (ad.add (i * 7)).off + 2, none⟩ = some (.int .i64 x.a) ∧ w.cell? ⟨(ad.add (i * 7)).block, (ad.add (i * 7)).off + 3, none⟩ = some (.int .i64 x.o) ∧
      w.cell? ⟨(ad.add (i * 7)).block, (ad.add (i * 7)).off + 4, none⟩ = some (.slice A1 x.g.length c1) ∧ w.cell? ⟨(ad.add (i * 7)).block, (ad.add (i * 7)).off + 5, none⟩ = some (.int .i64 x.rn) ∧
      w.cell? ⟨(ad.add (i * 7)).block, (ad.add (i * 7)).off + 6, none⟩ = some (.int .i64 x.rd) ∧ x.g.length ≤ c1 ∧ (Kd.int .i64).C w A1 x.g.length x.g := by
  obtain ⟨ad, c, e, _, hK, hc0⟩ := Kd.C_get h zEvent (i : Int) (by omega) (by omega)
  have hl : i < xs.length := by have := h.1; omega
  have hx : xs.getD (i : Int).toNat zEvent = xs[i] := by simp [hl]
  rw [hx] at hK
  obtain ⟨A1, c1, rfl, l1, g1⟩ := kEvent_open hK
  have hc : ∀ j u, ([.int .i64 (xs[i]).k, .int .i64 (xs[i]).m, .int .i64 (xs[i]).a, .int .i64 (xs[i]).o, .slice A1 (xs[i]).g.length c1, .int .i64 (xs[i]).rn, .int .i64 (xs[i]).rd] : List Value)[j]? = some u → w.cell? (ad.add (i * 7 + j)) = some u := hc0
  exact ⟨xs[i], ad, A1, c1, ⟨List.getElem?_eq_getElem hl⟩, e, hc 0 _ rfl, by rw [← add_field _ _ 1 (by omega)]; exact hc 1 _ rfl, by rw [← add_field _ _ 2 (by omega)]; exact hc 2 _ rfl, by rw [← add_field _ _ 3 (by omega)]; exact hc 3 _ rfl, by rw [← add_field _ _ 4 (by omega)]; exact hc 4 _ rfl, by rw [← add_field _ _ 5 (by omega)]; exact hc 5 _ rfl, by rw [← add_field _ _ 6 (by omega)]; exact hc 6 _ rfl, l1, g1⟩
end Go.Proofs.YtfmmpggfphmlbaaDoor
