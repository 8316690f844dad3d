/- Words on rows of records that the call has made: an element stored whole. No program in sight. -/
import Derived.Test.YtfmmpggfphmlbaaDoorBase
import Derived.Test.YtfmmpggfphmlbaaDoorWApart
namespace Go.Proofs.YtfmmpggfphmlbaaDoor
open Go.RowKit Go.Proofs.YtfmmpggfphmlbaaDoorW.PrintWords Kd
set_option linter.unusedVariables false
set_option linter.unusedSimpArgs false
theorem len7 {α : Type} {l : List α} (h : l.length = 7) : ∃ a b c d e f g, l = [a, b, c, d, e, f, g] := by
  match l, h with
  | [a, b, c, d, e, f, g], _ => exact ⟨a, b, c, d, e, f, g, rfl⟩
theorem len3 {α : Type} {l : List α} (h : l.length = 3) : ∃ a b c, l = [a, b, c] := by
  match l, h with
  | [a, b, c], _ => exact ⟨a, b, c, rfl⟩
theorem len4 {α : Type} {l : List α} (h : l.length = 4) : ∃ a b c d, l = [a, b, c, d] := by
  match l, h with
  | [a, b, c, d], _ => exact ⟨a, b, c, d, rfl⟩
/-- An element of a row of the call's own is written whole: the new one's blocks (okg) are none of the row's so far. -/
theorem S_whole {α : Type} {d : Kd α} {e : Nat} {W : World} {base : Nat} {ok okg okp : Nat → Prop} {g n cap : Nat} {xs : List α} (h : S d e W base (fun k => ok k ∧ ¬ okg k) (.slice (some ⟨g, 0, none⟩) n cap) xs) (z : α) (i : Nat) (hi : i < n)
    {seg : List Value} {x' : α} (hM : d.M W base okp x' seg) (hokp : ∀ k, okp k → okg k) (hg : ∀ k, okg k → ok k ∧ k ≠ g) :
    (∃ c : List Value, c.length = d.sz ∧ ∀ j u, c[j]? = some u → W.cell? ⟨g, i * d.sz + j, none⟩ = some u) ∧ (∀ j, W.frozen? ⟨g, i * d.sz + j, none⟩ = false) ∧
      S d e (W.setCells g (i * d.sz) seg) base ok (.slice (some ⟨g, 0, none⟩) n cap) (xs.set i x') ∧ W.grownBy (W.setCells g (i * d.sz) seg) (some g) := by
  obtain ⟨oki, c, hcl, hMc, hcc, hfr, hoki, hH⟩ := S_elem h z (i : Int) (by omega) (by omega)
  have hsl : seg.length = d.sz := d.K_len (d.K_of_M hM)
  have hx : c.take 0 ++ seg ++ c.drop (0 + seg.length) = seg := by rw [List.take_zero, List.nil_append, List.drop_eq_nil_of_le (by omega), List.append_nil]
  have hP := S_seg hH (by omega) (by omega) (seg := seg) (j := 0) (by omega) (x' := x') (okp := okp) (by rw [hx]; exact hM) (fun k hk => .inr (hokp k hk)) hg
  rw [Int.toNat_natCast, Nat.add_zero] at hP
  rw [Int.toNat_natCast] at hcc hfr
  exact ⟨⟨c, hcl, hcc⟩, hfr, hP.1, hP.2⟩
theorem kEvent_mkM {w : World} {base : Nat} {ok : Nat → Prop} (x : Event) {v : Value} (h : (Kd.int .i64).R 3 w base ok v x.g) : kEvent.M w base ok x [.int .i64 x.k, .int .i64 x.m, .int .i64 x.a, .int .i64 x.o, v, .int .i64 x.rn, .int .i64 x.rd] :=
  ⟨[_], _, rfl, rfl, [_], _, rfl, rfl, [_], _, rfl, rfl, [_], _, rfl, rfl, [_], _, rfl, ⟨v, rfl, h⟩, [_], _, rfl, rfl, rfl⟩
theorem kEvent_openM {w : World} {base : Nat} {ok : Nat → Prop} {x : Event} {cs : List Value} (h : kEvent.M w base ok x cs) : ∃ v, cs = [.int .i64 x.k, .int .i64 x.m, .int .i64 x.a, .int .i64 x.o, v, .int .i64 x.rn, .int .i64 x.rd] ∧ (Kd.int .i64).R 3 w base ok v x.g := by
  obtain ⟨_, _, rfl, rfl, _, _, rfl, rfl, _, _, rfl, rfl, _, _, rfl, rfl, _, _, rfl, ⟨v, rfl, h⟩, _, _, rfl, rfl, rfl⟩ := h
  exact ⟨v, rfl, h⟩
/-- A row's first element stands at the block's begin. -/
theorem slice_head {α : Type} {d : Kd α} {e : Nat} {w : World} {base : Nat} {ok : Nat → Prop} {A : Option Addr} {n c : Nat} {xs : List α} (h : S d e w base ok (.slice A n c) xs) (hn : 0 < n) : ∃ g, A = some ⟨g, 0, none⟩ := by
  have hl := (S_reads' h).1
  obtain ⟨g, cap, he, _⟩ := S_form h (by omega)
  injection he with he
  exact ⟨g, he⟩
/-- What is owned from a later begin on is none of an elder row. -/
theorem S_new {α : Type} {d : Kd α} {e : Nat} {w w1 : World} {base : Nat} {v u : Value} {xs : List α} (h : S d e w base (fun _ => True) v xs) (hb : Below w.heap.size w w1) (hu : ∀ k, u.ownBlock = some k → w.heap.size ≤ k) : S d e w1 base (fun k => True ∧ ¬ (some k = u.ownBlock)) v xs :=
  S_mono (S_step (S_bound h) (fun k hk hlt => hb.block k hlt)) (fun k hk => ⟨trivial, fun he => by have := hu k he.symm; have := hk.2.2.1; omega⟩)
end Go.Proofs.YtfmmpggfphmlbaaDoor
