/- What the laws' helpers that copy arguments answer: new memory that reads alike. Sizes as the form bounds them. -/
import Derived.Test.YtfmmpggfphmlbaaDoorBase
namespace Go.Proofs.YtfmmpggfphmlbaaDoor
open Go.RowKit Go.Proofs.YtfmmpggfphmlbaaDoorW.PrintWords
set_option linter.unusedVariables false
set_option linter.unusedSimpArgs false
theorem infoInt : (Tryd.prog.info? 3).map (fun i => (i.zero, i.size, i.bytes)) = some (some (.int .i64 0), 1, 8) := by kernel_rfl
theorem own_C {w : World} {base : Nat} {v : Value} {l : List Int} (h : w.ownsRow base 3 1 v l.length (nums .i64 l)) : ∃ A c, v = .slice A l.length c ∧ l.length ≤ c ∧ (Kd.int .i64).C w A l.length l :=
  Kd.R_reads (Kd.R_of_own (h1 := fun _ => rfl) (ok := fun _ => True) h (fun _ _ => trivial))
theorem set_mid {α : Type} (A B : List α) (a v : α) (n : Nat) (h : A.length = n) : (A ++ a :: B).set n v = A ++ v :: B := by subst h; simp
theorem fill_set {α : Type} {l : List α} {k : Nat} {x z : α} {n : Nat} (h : l[k]? = some x) (hk : k < n) : (l.take k ++ List.replicate (n - k) z).set k x = l.take (k + 1) ++ List.replicate (n - (k + 1)) z := by
  have hl := (List.getElem?_eq_some_iff.1 h).1
  rw [show n - k = (n - (k + 1)) + 1 from by omega, List.replicate_succ, set_mid _ _ _ _ _ (by rw [List.length_take]; omega), take_snoc h]; simp
set_option maxRecDepth 100000 in
theorem toIntS (l : List Int) (A : Option Addr) (c : Nat) (w : World) (hr : (Kd.int .i64).C w A l.length l) (hn : l.length * 8 ≤ 140737488355328) :
    Calls Tryd.prog 74 #[.slice A l.length c] w fun e w' => ∃ A1 c1, e = .returned (.slice A1 l.length c1) ∧ w'.ownsRow w.heap.size 3 1 (.slice A1 l.length c1) l.length (nums .i64 l) ∧ Below w.heap.size w w' := by
  have HR := Aside0.mk hr
  clear hr
  have hmk := print_make (P := Tryd.prog) 42 3 .i64 8 Tryd.underlying42 infoInt (by omega) l.length (by omega)
  go_enter Tryd.func74, Tryd.ntmps74
  go_wp2
  clear hmk
  have HO := Aside0.mk (own_made w w.heap.size 3 .i64 l.length (Nat.le_refl _) (by omega))
  go_loopw [4] (fun i wr => ∃ k : Nat, i = .int .i64 k ∧ k ≤ l.length ∧ Aside0 (wr.ownsRow w.heap.size 3 1 (.slice (some ⟨w.heap.size, 0, none⟩) l.length l.length) l.length (nums .i64 (l.take k ++ List.replicate (l.length - k) 0))) ∧ Aside0 (Below w.heap.size w wr)) (fun i _ => l.length - (intOf i).toNat)
  case atStart => exact ⟨0, rfl, Nat.zero_le _, ⟨by simpa using HO.out⟩, ⟨(by repeat (first | (with_reducible first | exact Below.refl _ _ | apply below_alloc | apply pw_below_drewN | apply below_drew1 | refine below_step ?_ (by assumption)) | (with_reducible refine below_set ?_ (by omega))))⟩⟩
  case round =>
    clear HO
    obtain ⟨k, rfl, hk, HO, HB⟩ := hrel
    by_cases hlt : k < l.length
    · obtain ⟨x, ad, hx, rfl, c0⟩ := at_nat (Kd.C_below HR.out HB.out) k hlt
      obtain ⟨d0, d1⟩ := own_at HO.out (k : Int) (by omega) (by omega)
      rw [Int.toNat_natCast] at d0 d1
      have HS := Aside0.mk (own_store HO.out (k : Int) x)
      go_wp2
      go_roundw
      case rel => exact ⟨k + 1, by go_num, by omega, ⟨by have h := HS.out.1; rw [Int.toNat_natCast, fill_set hx.out hlt] at h; exact h⟩, ⟨below_set HB.out (Nat.le_refl _)⟩⟩
      case measure => simp [intOf]; omega
    · go_wp2
      go_ret
      exact ⟨_, _, rfl, by have h := HO.out; rw [show l.length - k = 0 from by omega, List.take_of_length_le (by omega)] at h; simpa using h, HB.out⟩
set_option maxRecDepth 100000 in
theorem toRate (a b : Int) (w : World) :
    Calls Tryd.prog 75 #[.agg #[.int .i64 a, .int .i64 b]] w fun e w' => e = .returned (.agg #[.int .i64 a, .int .i64 b]) ∧ Below w.heap.size w w' := by
  go_enter Tryd.func75, Tryd.ntmps75
  go_wp2
  exact bodyPost_ret (v := .agg #[.int .i64 a, .int .i64 b]) (by simp [results, Tryd.results75, go_sem]) rfl ⟨rfl, (by repeat (first | (with_reducible first | exact Below.refl _ _ | apply below_alloc | apply pw_below_drewN | apply below_drew1 | refine below_step ?_ (by assumption)) | (with_reducible refine below_set ?_ (by omega))))⟩
set_option maxRecDepth 100000 in
set_option maxHeartbeats 1000000 in
theorem toEvent (x : Event) (A : Option Addr) (c : Nat) (w : World) (hr : (Kd.int .i64).C w A x.g.length x.g) (hn : x.g.length * 8 ≤ 140737488355328) :
    Calls Tryd.prog 37 #[.agg #[.int .i64 x.k, .int .i64 x.m, .int .i64 x.a, .int .i64 x.o, .slice A x.g.length c, .int .i64 x.rn, .int .i64 x.rd]] w fun e w' =>
      ∃ A1 c1, e = .returned (.agg #[.int .i64 x.k, .int .i64 x.m, .int .i64 x.a, .int .i64 x.o, .slice A1 x.g.length c1, .int .i64 x.rn, .int .i64 x.rd]) ∧ w'.ownsRow w.heap.size 3 1 (.slice A1 x.g.length c1) x.g.length (nums .i64 x.g) ∧ Below w.heap.size w w' := by
  have HR := Aside0.mk hr
  clear hr
  go_enter Tryd.func37, Tryd.ntmps37
  go_wp2_with fail
  go_at_call 74
  refine (toIntS _ _ _ _ (Kd.C_below HR.out (by repeat (first | (with_reducible first | exact Below.refl _ _ | apply below_alloc | apply pw_below_drewN | apply below_drew1 | refine below_step ?_ (by assumption)) | (with_reducible refine below_set ?_ (by omega))))) hn).mono ?_
  rintro e w1 ⟨A1, c1, rfl, hv, hb⟩
  have hz : w.heap.size + 1 + 1 < w1.heap.size := by have := hb.size; simp at this; omega
  have HV := Aside0.mk hv
  clear hv
  have B1 : Aside0 (w1.heap[w.heap.size + 1 + 1]? = some (.cells #[.int .i64 x.k, .int .i64 x.m, .int .i64 x.a, .int .i64 x.o, .slice none 0 0, .int .i64 0, .int .i64 0] 46 (0, 0))) := ⟨(hb.block (w.heap.size + 1 + 1) (by simp)).trans (new_at _ _ _ (by simp))⟩
  have q4 : w1.cell? ⟨w.heap.size + 1 + 1, 4, none⟩ = some (.slice none 0 0) := (blk_cell B1.out 4).trans rfl
  have f4 := blk_frozen B1.out 4
  have B0 : Aside0 (w1.heap[w.heap.size]? = some (.cells #[.int .i64 x.k, .int .i64 x.m, .int .i64 x.a, .int .i64 x.o, .slice A x.g.length c, .int .i64 x.rn, .int .i64 x.rd] 56 (0, 0))) := ⟨(hb.block w.heap.size (by simp <;> omega)).trans (by repeat (first | exact new_at _ _ _ (by simp) | refine (Below.heap_alloc _ _ _ (by simp <;> omega)).trans ?_))⟩
  have p5 : w1.cell? ⟨w.heap.size, 5, none⟩ = some (.int .i64 x.rn) := (blk_cell B0.out 5).trans rfl
  have p6 : w1.cell? ⟨w.heap.size, 6, none⟩ = some (.int .i64 x.rd) := (blk_cell B0.out 6).trans rfl
  go_wp2_with fail
  go_at_call 75
  refine (toRate _ _ _).mono ?_
  rintro e w2 ⟨rfl, hb2⟩
  have B2 := Aside0.mk ((hb2.block (w.heap.size + 1 + 1) (by simpa using hz)).trans (blk_set B1.out 4 _))
  have r0 : w2.cell? ⟨w.heap.size + 1 + 1, 0, none⟩ = some (.int .i64 x.k) := (blk_cell B2.out 0).trans rfl
  have r1 : w2.cell? ⟨w.heap.size + 1 + 1, 1, none⟩ = some (.int .i64 x.m) := (blk_cell B2.out 1).trans rfl
  have r2 : w2.cell? ⟨w.heap.size + 1 + 1, 2, none⟩ = some (.int .i64 x.a) := (blk_cell B2.out 2).trans rfl
  have r3 : w2.cell? ⟨w.heap.size + 1 + 1, 3, none⟩ = some (.int .i64 x.o) := (blk_cell B2.out 3).trans rfl
  have r4 : w2.cell? ⟨w.heap.size + 1 + 1, 4, none⟩ = some (.slice A1 x.g.length c1) := (blk_cell B2.out 4).trans rfl
  have r5 : w2.cell? ⟨w.heap.size + 1 + 1, 5, none⟩ = some (.int .i64 0) := (blk_cell B2.out 5).trans rfl
  have r6 : w2.cell? ⟨w.heap.size + 1 + 1, 6, none⟩ = some (.int .i64 0) := (blk_cell B2.out 6).trans rfl
  have rf : ∀ i, w2.frozen? ⟨w.heap.size + 1 + 1, i, none⟩ = false := fun i => blk_frozen B2.out i
  have B3 : Aside0 (w1.heap[w.heap.size + 1]? = some (.cells #[.int .i64 0, .int .i64 0, .int .i64 0, .int .i64 0, .slice none 0 0, .int .i64 0, .int .i64 0] 46 (0, 0))) := ⟨(hb.block (w.heap.size + 1) (by simp <;> omega)).trans (by repeat (first | exact new_at _ _ _ (by simp) | refine (Below.heap_alloc _ _ _ (by simp <;> omega)).trans ?_))⟩
  have B4 := Aside0.mk ((hb2.block (w.heap.size + 1) (by simp <;> omega)).trans (blk_far (p := ⟨w.heap.size + 1 + 1, 4, none⟩) B3.out (by simp <;> omega) (.slice A1 x.g.length c1)))
  have t0 : w2.cell? ⟨w.heap.size + 1, 0, none⟩ = some (.int .i64 0) := (blk_cell B4.out 0).trans rfl
  have t1 : w2.cell? ⟨w.heap.size + 1, 1, none⟩ = some (.int .i64 0) := (blk_cell B4.out 1).trans rfl
  have t2 : w2.cell? ⟨w.heap.size + 1, 2, none⟩ = some (.int .i64 0) := (blk_cell B4.out 2).trans rfl
  have t3 : w2.cell? ⟨w.heap.size + 1, 3, none⟩ = some (.int .i64 0) := (blk_cell B4.out 3).trans rfl
  have t4 : w2.cell? ⟨w.heap.size + 1, 4, none⟩ = some (.slice none 0 0) := (blk_cell B4.out 4).trans rfl
  have t5 : w2.cell? ⟨w.heap.size + 1, 5, none⟩ = some (.int .i64 0) := (blk_cell B4.out 5).trans rfl
  have t6 : w2.cell? ⟨w.heap.size + 1, 6, none⟩ = some (.int .i64 0) := (blk_cell B4.out 6).trans rfl
  have tf : ∀ i, w2.frozen? ⟨w.heap.size + 1, i, none⟩ = false := fun i => blk_frozen B4.out i
  go_wp2_with fail
  have hne : ∀ b, b < w.heap.size + 3 → some b ≠ (Value.slice A1 x.g.length c1).ownBlock := fun b hb e => by have := own_base HV.out b e.symm; simp at this; omega
  have HW := Aside0.mk (own_less (pw_own_below (own_setCell (p := ⟨w.heap.size + 1 + 1, 4, none⟩) HV.out (hne _ (by simp)) (.slice A1 x.g.length c1)) hb2) (show w.heap.size ≤ _ by simp <;> omega))
  refine bodyPost_ret (results_cell_row rfl _ _ (w.heap.size + 1) 46 #[.int .i64 x.k, .int .i64 x.m, .int .i64 x.a, .int .i64 x.o, .slice A1 x.g.length c1, .int .i64 x.rn, .int .i64 x.rd] (0, 0) _ rfl ?hb Tryd.underlying46 rfl (by kernel_rfl)) rfl ?_
  case hb => exact blk_set (blk_set (blk_set (blk_set (blk_set (blk_set (blk_set (blk_far (p := ⟨w.heap.size + 1 + 1, 6, none⟩) (blk_far (p := ⟨w.heap.size + 1 + 1, 5, none⟩) B4.out (by simp) _) (by simp) _) 0 _) 1 _) 2 _) 3 _) 4 _) 5 _) 6 _
  exact ⟨A1, c1, rfl, by repeat (first | (with_reducible exact HW.out) | (with_reducible refine own_setCell ?_ (hne _ (by simp)) _)), (by repeat (first | (with_reducible first | exact Below.refl _ _ | apply below_alloc | apply pw_below_drewN | apply below_drew1 | refine below_step ?_ (by assumption)) | (with_reducible refine below_set ?_ (by omega))))⟩
end Go.Proofs.YtfmmpggfphmlbaaDoor
