/- What the program writes behind an event's first word. Fewer than 2^40 guards; the package variables as laid. -/
import Derived.Test.YtfmmpggfphmlbaaDoorImplC
namespace Go.Proofs.YtfmmpggfphmlbaaDoor
open Go.RowKit Go.Proofs.YtfmmpggfphmlbaaDoorW.PrintWords
set_option linter.unusedVariables false
set_option linter.unusedSimpArgs false
def spi (n : Int) : Bs := 32 :: Lib.itoa n
def detOk (e : Event) : Bool :=
  if e.k = 0 then true else if e.k = 7 then true else if e.k = 6 then vRate e.rn e.rd
  else if e.k = 5 then rng 0 99 e.m else if e.k = 4 then rng 0 99 e.m && (vAm e.a && vAm e.o) else if e.k = 3 then rng 0 99 e.m && (vAm e.a && e.g.all (rng 0 99)) else rng 0 99 e.m && vAm e.a
def detT (e : Event) : Bs :=
  if e.k = 0 then [] else if e.k = 7 then [] else if e.k = 6 then spi e.rn ++ spi e.rd
  else if e.k = 5 then memT [e.m] else if e.k = 4 then memT [e.m] ++ amT [e.a] ++ amT [e.o] else if e.k = 3 then memT [e.m] ++ amT [e.a] ++ memT e.g else memT [e.m] ++ amT [e.a]
theorem itoa_len (n : Int) (h1 : n ≤ 9223372036854775807) (h0 : -9223372036854775808 ≤ n) : (Lib.itoa n).length ≤ 21 := by
  unfold Lib.itoa
  split
  · have := Lib.nDigits_le20 n.natAbs (by omega)
    simp [Lib.decDigits_length] <;> omega
  · have := Lib.nDigits_le20 n.toNat (by omega)
    have e : n.natAbs = n.toNat := by omega
    simp [Lib.decDigits_length, e] <;> omega
theorem itoa_full (n : Int) (w : World) (hL : Laid w) (h0 : -9223372036854775808 ≤ n) (h1 : n ≤ 9223372036854775807) :
    Calls Tryd.prog 43 #[.int .i64 n] w fun e w' => e = .returned (.string (bs (Lib.itoa n))) ∧ Below w.heap.size w w' := by
  refine (Go.Proofs.Tryd.strconv_Itoa n h0 h1 w hL.tab).mono ?_
  rintro e w' ⟨rfl, k, os, rfl⟩
  exact ⟨rfl, below_grow⟩
theorem impl_ValidRate (a b : Int) (w : World) :
    Calls Tryd.prog 91 #[.agg #[.int .i64 a, .int .i64 b]] w fun e w' => e = .returned (.bool (vRate a b)) ∧ Below w.heap.size w w' := by
  have hv : vRate a b = (decide (1 ≤ b) && (decide (b ≤ 1000) && (decide (0 ≤ a) && decide (a ≤ b)))) := by simp [vRate, rng, Bool.and_assoc]
  have HV := Lib.hid hv
  clear hv
  by_cases h1 : 1 ≤ b
  · by_cases h2 : b ≤ 1000
    · by_cases h3 : 0 ≤ a
      all_goals
        go_enter Tryd.func91, Tryd.ntmps91
        go_wp2
        repeat (go_quiet (fail); try go_wp2)
        go_ret
        exact ⟨ret_bool (by rw [HV.out]; simp [*] <;> omega), (by repeat (first | (with_reducible first | exact Below.refl _ _ | apply below_alloc | apply pw_below_drewN | apply below_drew1 | refine below_step ?_ (by assumption)) | (with_reducible refine below_set ?_ (by omega))))⟩
    · go_enter Tryd.func91, Tryd.ntmps91
      go_wp2
      repeat (go_quiet (fail); try go_wp2)
      go_ret
      exact ⟨ret_bool (by rw [HV.out]; simp [*] <;> omega), (by repeat (first | (with_reducible first | exact Below.refl _ _ | apply below_alloc | apply pw_below_drewN | apply below_drew1 | refine below_step ?_ (by assumption)) | (with_reducible refine below_set ?_ (by omega))))⟩
  · go_enter Tryd.func91, Tryd.ntmps91
    go_wp2
    repeat (go_quiet (fail); try go_wp2)
    go_ret
    exact ⟨ret_bool (by rw [HV.out]; simp [*] <;> omega), (by repeat (first | (with_reducible first | exact Below.refl _ _ | apply below_alloc | apply pw_below_drewN | apply below_drew1 | refine below_step ?_ (by assumption)) | (with_reducible refine below_set ?_ (by omega))))⟩
def NightS (w : World) (rn rd : Int) (w' : World) : Prop := Laid w' ∧ Below w.heap.size w w' ∧ w.heap.size < w'.heap.size
theorem night_keep {w W w1 : World} {rn rd : Int} (hb : Below W.heap.size W w1) (H : W.cell? ⟨w.heap.size, 5, none⟩ = some (.int .i64 rn) ∧ W.cell? ⟨w.heap.size, 6, none⟩ = some (.int .i64 rd) ∧ NightS w rn rd W) :
    w1.cell? ⟨w.heap.size, 5, none⟩ = some (.int .i64 rn) ∧ w1.cell? ⟨w.heap.size, 6, none⟩ = some (.int .i64 rd) ∧ NightS w rn rd w1 :=
  ⟨pw_cell_below hb H.1, pw_cell_below hb H.2.1, H.2.2.1.below hb, below_step H.2.2.2.1 hb, Nat.lt_of_lt_of_le H.2.2.2.2 hb.size⟩
theorem memT_len (l : List Int) : (memT l).length ≤ 21 * l.length := by
  unfold memT
  split
  · rename_i h; exact flat_spn_len l (fun y hy => by have := all_mem h y hy; omega)
  · simp
theorem amT_len (l : List Int) : (amT l).length ≤ 62 * l.length := by
  unfold amT
  split
  · rename_i h; exact flat_spm_len l (am_mem h)
  · simp
theorem lit_C (W : World) (xs : List Int) (hm : xs.length ≤ 9223372036854775807) : (Kd.int .i64).C (W.alloc (.cells (nums .i64 xs).toArray 3)) (some ⟨W.heap.size, 0, none⟩) xs.length xs := by
  obtain ⟨A, c, he, _, hC⟩ := Kd.R_reads (Kd.R_of_own (h1 := fun _ => rfl) (ok := fun _ => True) (own_lit W W.heap.size 3 .i64 xs (Nat.le_refl _) hm) (fun _ _ => trivial))
  injection he with hA _ _
  rw [hA]; exact hC
theorem lit1_C (W : World) (x : Int) : (Kd.int .i64).C (W.alloc (.cells #[.int .i64 x] 3)) (some ⟨W.heap.size, 0, none⟩) 1 [x] := lit_C W [x] (by simp)
theorem lit1_at {W W' : World} {b : Nat} (x : Int) (hw : W' = W.alloc (.cells #[.int .i64 x] 3)) (hb : b = W.heap.size) : (Kd.int .i64).C W' (some ⟨b, 0, none⟩) [x].length [x] := by subst hw hb; exact lit1_C W x
section
attribute [local go_sem] bs_size
set_option maxRecDepth 100000 in
set_option maxHeartbeats 1000000 in
theorem det_join (m a o : Int) (g : List Int) (rn rd : Int) (A : Option Addr) (c : Nat) (w : World) (HL : Aside0 (Laid w)) (HR : Aside0 ((Kd.int .i64).C w A g.length g)) (hg : g.length ≤ 1099511627776) :
    Calls Tryd.prog 76 #[.agg #[.int .i64 0, .int .i64 m, .int .i64 a, .int .i64 o, .slice A g.length c, .int .i64 rn, .int .i64 rd]] w fun q w' => q = .returned (.tuple #[.string (bs (detT ⟨0, m, a, o, g, rn, rd⟩)), .bool (detOk ⟨0, m, a, o, g, rn, rd⟩)]) ∧ Below w.heap.size w w' := by
  go_enter Tryd.func76, Tryd.ntmps76
  go_wp2
  go_ret2
  exact ⟨rfl, (by repeat (first | (with_reducible first | exact Below.refl _ _ | apply below_alloc | apply pw_below_drewN | apply below_drew1 | refine below_step ?_ (by assumption)) | (with_reducible refine below_set ?_ (by omega))))⟩
set_option maxRecDepth 100000 in
set_option maxHeartbeats 1000000 in
theorem det_share (m a o : Int) (g : List Int) (rn rd : Int) (A : Option Addr) (c : Nat) (w : World) (HL : Aside0 (Laid w)) (HR : Aside0 ((Kd.int .i64).C w A g.length g)) (hg : g.length ≤ 1099511627776) :
    Calls Tryd.prog 76 #[.agg #[.int .i64 7, .int .i64 m, .int .i64 a, .int .i64 o, .slice A g.length c, .int .i64 rn, .int .i64 rd]] w fun q w' => q = .returned (.tuple #[.string (bs (detT ⟨7, m, a, o, g, rn, rd⟩)), .bool (detOk ⟨7, m, a, o, g, rn, rd⟩)]) ∧ Below w.heap.size w w' := by
  go_enter Tryd.func76, Tryd.ntmps76
  go_wp2
  go_ret2
  exact ⟨rfl, (by repeat (first | (with_reducible first | exact Below.refl _ _ | apply below_alloc | apply pw_below_drewN | apply below_drew1 | refine below_step ?_ (by assumption)) | (with_reducible refine below_set ?_ (by omega))))⟩
set_option maxRecDepth 100000 in
set_option maxHeartbeats 1000000 in
theorem det_night (m a o : Int) (g : List Int) (rn rd : Int) (A : Option Addr) (c : Nat) (w : World) (HL : Aside0 (Laid w)) (HR : Aside0 ((Kd.int .i64).C w A g.length g)) (hg : g.length ≤ 1099511627776) (h1 : -9223372036854775808 ≤ rn ∧ rn ≤ 9223372036854775807) (h2 : -9223372036854775808 ≤ rd ∧ rd ≤ 9223372036854775807) :
    Calls Tryd.prog 76 #[.agg #[.int .i64 6, .int .i64 m, .int .i64 a, .int .i64 o, .slice A g.length c, .int .i64 rn, .int .i64 rd]] w fun q w' => q = .returned (.tuple #[.string (bs (detT ⟨6, m, a, o, g, rn, rd⟩)), .bool (detOk ⟨6, m, a, o, g, rn, rd⟩)]) ∧ Below w.heap.size w w' := by
  have l1 := itoa_len rn (by omega) (by omega)
  have l2 := itoa_len rd (by omega) (by omega)
  have e1 : ¬9223372036854775807 < 1 + (Lib.itoa rn).length := by omega
  have e2 : ¬9223372036854775807 < 1 + (Lib.itoa rn).length + 1 := by omega
  have e3 : ¬9223372036854775807 < 1 + (Lib.itoa rn).length + 1 + (Lib.itoa rd).length := by omega
  go_enter Tryd.func76, Tryd.ntmps76
  go_wp2_with fail
  go_region_held3 (fun w' => w'.cell? ⟨w.heap.size, 5, none⟩ = some (.int .i64 rn) ∧ w'.cell? ⟨w.heap.size, 6, none⟩ = some (.int .i64 rd) ∧ NightS w rn rd w') (first | exact ⟨by go_simp, by go_simp, HL.out.below (by repeat (first | (with_reducible first | exact Below.refl _ _ | apply below_alloc | apply pw_below_drewN | apply below_drew1 | refine below_step ?_ (by assumption)) | (with_reducible refine below_set ?_ (by omega)))), (by repeat (first | (with_reducible first | exact Below.refl _ _ | apply below_alloc | apply pw_below_drewN | apply below_drew1 | refine below_step ?_ (by assumption)) | (with_reducible refine below_set ?_ (by omega)))), by simp⟩ | exact night_keep (by assumption) (by assumption) | exact (by assumption))
    (first
      | (go_at_call 43; refine (itoa_full _ _ (show _ ∧ _ ∧ NightS w rn rd _ from by assumption).2.2.1 ?q2 ?q3).mono ?_; (case q2 => omega); (case q3 => omega); rintro q w' ⟨rfl, hb⟩)
      | (go_at_call 91; refine (impl_ValidRate _ _ _).mono ?_; rintro q w' ⟨rfl, hb⟩))
  all_goals
    rename_i hHeld
    go_wp2
    go_ret2
    exact ⟨by rw [detT, detOk]; simp [c_sp, bs_app, spi], hHeld.2.2.2.1⟩
set_option maxRecDepth 100000 in
set_option maxHeartbeats 1000000 in
theorem det_fail (m a o : Int) (g : List Int) (rn rd : Int) (A : Option Addr) (c : Nat) (w : World) (HL : Aside0 (Laid w)) (HR : Aside0 ((Kd.int .i64).C w A g.length g)) (hg : g.length ≤ 1099511627776) :
    Calls Tryd.prog 76 #[.agg #[.int .i64 5, .int .i64 m, .int .i64 a, .int .i64 o, .slice A g.length c, .int .i64 rn, .int .i64 rd]] w fun q w' => q = .returned (.tuple #[.string (bs (detT ⟨5, m, a, o, g, rn, rd⟩)), .bool (detOk ⟨5, m, a, o, g, rn, rd⟩)]) ∧ Below w.heap.size w w' := by
  have lm : (memT [m]).length ≤ 21 := memT_len [m]
  have la : (amT [a]).length ≤ 62 := amT_len [a]
  go_enter Tryd.func76, Tryd.ntmps76
  go_wp2_with fail
  go_at_call 92
  refine (impl_showMembers [m] _ _ _ (lit1_at m rfl (by simp)) (by simp)).mono ?_
  rintro q w1 ⟨rfl, hb1⟩
  have B1 : Aside0 (w1.heap[w.heap.size]? = some (.cells #[.int .i64 5, .int .i64 m, .int .i64 a, .int .i64 o, .slice A g.length c, .int .i64 rn, .int .i64 rd] 46 (0, 0))) := ⟨(hb1.block w.heap.size (by simp <;> omega)).trans (by repeat (first | exact new_at _ _ _ (by simp) | refine (Below.heap_alloc _ _ _ (by simp <;> omega)).trans ?_))⟩
  have r0 : w1.cell? ⟨w.heap.size, 0, none⟩ = some (.int .i64 5) := (blk_cell B1.out 0).trans rfl
  have r1 : w1.cell? ⟨w.heap.size, 1, none⟩ = some (.int .i64 m) := (blk_cell B1.out 1).trans rfl
  have r2 : w1.cell? ⟨w.heap.size, 2, none⟩ = some (.int .i64 a) := (blk_cell B1.out 2).trans rfl
  have r3 : w1.cell? ⟨w.heap.size, 3, none⟩ = some (.int .i64 o) := (blk_cell B1.out 3).trans rfl
  have r4 : w1.cell? ⟨w.heap.size, 4, none⟩ = some (.slice A g.length c) := (blk_cell B1.out 4).trans rfl
  have r5 : w1.cell? ⟨w.heap.size, 5, none⟩ = some (.int .i64 rn) := (blk_cell B1.out 5).trans rfl
  have r6 : w1.cell? ⟨w.heap.size, 6, none⟩ = some (.int .i64 rd) := (blk_cell B1.out 6).trans rfl
  have rf : ∀ i, w1.frozen? ⟨w.heap.size, i, none⟩ = false := fun i => blk_frozen B1.out i
  go_wp2
  go_ret2
  exact ⟨by rw [detT, detOk]; simp, (by repeat (first | (with_reducible first | exact Below.refl _ _ | apply below_alloc | apply pw_below_drewN | apply below_drew1 | refine below_step ?_ (by assumption)) | (with_reducible refine below_set ?_ (by omega))))⟩
set_option maxRecDepth 100000 in
set_option maxHeartbeats 1000000 in
theorem det_repay (m a o : Int) (g : List Int) (rn rd : Int) (A : Option Addr) (c : Nat) (w : World) (HL : Aside0 (Laid w)) (HR : Aside0 ((Kd.int .i64).C w A g.length g)) (hg : g.length ≤ 1099511627776) :
    Calls Tryd.prog 76 #[.agg #[.int .i64 4, .int .i64 m, .int .i64 a, .int .i64 o, .slice A g.length c, .int .i64 rn, .int .i64 rd]] w fun q w' => q = .returned (.tuple #[.string (bs (detT ⟨4, m, a, o, g, rn, rd⟩)), .bool (detOk ⟨4, m, a, o, g, rn, rd⟩)]) ∧ Below w.heap.size w w' := by
  have lm : (memT [m]).length ≤ 21 := memT_len [m]
  have la : (amT [a]).length ≤ 62 := amT_len [a]
  have lo : (amT [o]).length ≤ 62 := amT_len [o]
  go_enter Tryd.func76, Tryd.ntmps76
  go_wp2_with fail
  go_at_call 92
  refine (impl_showMembers [m] _ _ _ (lit1_at m rfl (by simp)) (by simp)).mono ?_
  rintro q w1 ⟨rfl, hb1⟩
  have B1 : Aside0 (w1.heap[w.heap.size]? = some (.cells #[.int .i64 4, .int .i64 m, .int .i64 a, .int .i64 o, .slice A g.length c, .int .i64 rn, .int .i64 rd] 46 (0, 0))) := ⟨(hb1.block w.heap.size (by simp <;> omega)).trans (by repeat (first | exact new_at _ _ _ (by simp) | refine (Below.heap_alloc _ _ _ (by simp <;> omega)).trans ?_))⟩
  have r0 : w1.cell? ⟨w.heap.size, 0, none⟩ = some (.int .i64 4) := (blk_cell B1.out 0).trans rfl
  have r1 : w1.cell? ⟨w.heap.size, 1, none⟩ = some (.int .i64 m) := (blk_cell B1.out 1).trans rfl
  have r2 : w1.cell? ⟨w.heap.size, 2, none⟩ = some (.int .i64 a) := (blk_cell B1.out 2).trans rfl
  have r3 : w1.cell? ⟨w.heap.size, 3, none⟩ = some (.int .i64 o) := (blk_cell B1.out 3).trans rfl
  have r4 : w1.cell? ⟨w.heap.size, 4, none⟩ = some (.slice A g.length c) := (blk_cell B1.out 4).trans rfl
  have r5 : w1.cell? ⟨w.heap.size, 5, none⟩ = some (.int .i64 rn) := (blk_cell B1.out 5).trans rfl
  have r6 : w1.cell? ⟨w.heap.size, 6, none⟩ = some (.int .i64 rd) := (blk_cell B1.out 6).trans rfl
  have rf : ∀ i, w1.frozen? ⟨w.heap.size, i, none⟩ = false := fun i => blk_frozen B1.out i
  go_wp2_with fail
  go_at_call 93
  refine (impl_showAmounts [a] _ _ _ (HL.out.below (by repeat (first | (with_reducible first | exact Below.refl _ _ | apply below_alloc | apply pw_below_drewN | apply below_drew1 | refine below_step ?_ (by assumption)) | (with_reducible refine below_set ?_ (by omega))))) (lit1_at a rfl (by simp)) (by simp)).mono ?_
  rintro q w2 ⟨rfl, hb2⟩
  have B2 : Aside0 (w2.heap[w.heap.size]? = some (.cells #[.int .i64 4, .int .i64 m, .int .i64 a, .int .i64 o, .slice A g.length c, .int .i64 rn, .int .i64 rd] 46 (0, 0))) := ⟨blk_below (blk_alloc B1.out _) hb2⟩
  have t0 : w2.cell? ⟨w.heap.size, 0, none⟩ = some (.int .i64 4) := (blk_cell B2.out 0).trans rfl
  have t1 : w2.cell? ⟨w.heap.size, 1, none⟩ = some (.int .i64 m) := (blk_cell B2.out 1).trans rfl
  have t2 : w2.cell? ⟨w.heap.size, 2, none⟩ = some (.int .i64 a) := (blk_cell B2.out 2).trans rfl
  have t3 : w2.cell? ⟨w.heap.size, 3, none⟩ = some (.int .i64 o) := (blk_cell B2.out 3).trans rfl
  have t4 : w2.cell? ⟨w.heap.size, 4, none⟩ = some (.slice A g.length c) := (blk_cell B2.out 4).trans rfl
  have t5 : w2.cell? ⟨w.heap.size, 5, none⟩ = some (.int .i64 rn) := (blk_cell B2.out 5).trans rfl
  have t6 : w2.cell? ⟨w.heap.size, 6, none⟩ = some (.int .i64 rd) := (blk_cell B2.out 6).trans rfl
  have tf : ∀ i, w2.frozen? ⟨w.heap.size, i, none⟩ = false := fun i => blk_frozen B2.out i
  go_wp2_with fail
  go_at_call 93
  refine (impl_showAmounts [o] _ _ _ (HL.out.below (by repeat (first | (with_reducible first | exact Below.refl _ _ | apply below_alloc | apply pw_below_drewN | apply below_drew1 | refine below_step ?_ (by assumption)) | (with_reducible refine below_set ?_ (by omega))))) (lit1_at o rfl (by simp)) (by simp)).mono ?_
  rintro q w3 ⟨rfl, hb3⟩
  by_cases v1 : rng 0 99 m = true <;> by_cases v2 : vAm a = true
  all_goals
    go_wp2
    repeat (go_quiet (fail); try go_wp2)
    go_ret2
    exact ⟨by rw [detT, detOk]; simp [*, bs_app], (by repeat (first | (with_reducible first | exact Below.refl _ _ | apply below_alloc | apply pw_below_drewN | apply below_drew1 | refine below_step ?_ (by assumption)) | (with_reducible refine below_set ?_ (by omega))))⟩
set_option maxRecDepth 100000 in
set_option maxHeartbeats 1000000 in
theorem det_lend (m a o : Int) (g : List Int) (rn rd : Int) (A : Option Addr) (c : Nat) (w : World) (HL : Aside0 (Laid w)) (HR : Aside0 ((Kd.int .i64).C w A g.length g)) (hg : g.length ≤ 1099511627776) :
    Calls Tryd.prog 76 #[.agg #[.int .i64 3, .int .i64 m, .int .i64 a, .int .i64 o, .slice A g.length c, .int .i64 rn, .int .i64 rd]] w fun q w' => q = .returned (.tuple #[.string (bs (detT ⟨3, m, a, o, g, rn, rd⟩)), .bool (detOk ⟨3, m, a, o, g, rn, rd⟩)]) ∧ Below w.heap.size w w' := by
  have lm : (memT [m]).length ≤ 21 := memT_len [m]
  have la : (amT [a]).length ≤ 62 := amT_len [a]
  have lg := memT_len g
  go_enter Tryd.func76, Tryd.ntmps76
  go_wp2_with fail
  go_at_call 92
  refine (impl_showMembers [m] _ _ _ (lit1_at m rfl (by simp)) (by simp)).mono ?_
  rintro q w1 ⟨rfl, hb1⟩
  have B1 : Aside0 (w1.heap[w.heap.size]? = some (.cells #[.int .i64 3, .int .i64 m, .int .i64 a, .int .i64 o, .slice A g.length c, .int .i64 rn, .int .i64 rd] 46 (0, 0))) := ⟨(hb1.block w.heap.size (by simp <;> omega)).trans (by repeat (first | exact new_at _ _ _ (by simp) | refine (Below.heap_alloc _ _ _ (by simp <;> omega)).trans ?_))⟩
  have r0 : w1.cell? ⟨w.heap.size, 0, none⟩ = some (.int .i64 3) := (blk_cell B1.out 0).trans rfl
  have r1 : w1.cell? ⟨w.heap.size, 1, none⟩ = some (.int .i64 m) := (blk_cell B1.out 1).trans rfl
  have r2 : w1.cell? ⟨w.heap.size, 2, none⟩ = some (.int .i64 a) := (blk_cell B1.out 2).trans rfl
  have r3 : w1.cell? ⟨w.heap.size, 3, none⟩ = some (.int .i64 o) := (blk_cell B1.out 3).trans rfl
  have r4 : w1.cell? ⟨w.heap.size, 4, none⟩ = some (.slice A g.length c) := (blk_cell B1.out 4).trans rfl
  have r5 : w1.cell? ⟨w.heap.size, 5, none⟩ = some (.int .i64 rn) := (blk_cell B1.out 5).trans rfl
  have r6 : w1.cell? ⟨w.heap.size, 6, none⟩ = some (.int .i64 rd) := (blk_cell B1.out 6).trans rfl
  have rf : ∀ i, w1.frozen? ⟨w.heap.size, i, none⟩ = false := fun i => blk_frozen B1.out i
  go_wp2_with fail
  go_at_call 93
  refine (impl_showAmounts [a] _ _ _ (HL.out.below (by repeat (first | (with_reducible first | exact Below.refl _ _ | apply below_alloc | apply pw_below_drewN | apply below_drew1 | refine below_step ?_ (by assumption)) | (with_reducible refine below_set ?_ (by omega))))) (lit1_at a rfl (by simp)) (by simp)).mono ?_
  rintro q w2 ⟨rfl, hb2⟩
  have B2 : Aside0 (w2.heap[w.heap.size]? = some (.cells #[.int .i64 3, .int .i64 m, .int .i64 a, .int .i64 o, .slice A g.length c, .int .i64 rn, .int .i64 rd] 46 (0, 0))) := ⟨blk_below (blk_alloc B1.out _) hb2⟩
  have t0 : w2.cell? ⟨w.heap.size, 0, none⟩ = some (.int .i64 3) := (blk_cell B2.out 0).trans rfl
  have t1 : w2.cell? ⟨w.heap.size, 1, none⟩ = some (.int .i64 m) := (blk_cell B2.out 1).trans rfl
  have t2 : w2.cell? ⟨w.heap.size, 2, none⟩ = some (.int .i64 a) := (blk_cell B2.out 2).trans rfl
  have t3 : w2.cell? ⟨w.heap.size, 3, none⟩ = some (.int .i64 o) := (blk_cell B2.out 3).trans rfl
  have t4 : w2.cell? ⟨w.heap.size, 4, none⟩ = some (.slice A g.length c) := (blk_cell B2.out 4).trans rfl
  have t5 : w2.cell? ⟨w.heap.size, 5, none⟩ = some (.int .i64 rn) := (blk_cell B2.out 5).trans rfl
  have t6 : w2.cell? ⟨w.heap.size, 6, none⟩ = some (.int .i64 rd) := (blk_cell B2.out 6).trans rfl
  have tf : ∀ i, w2.frozen? ⟨w.heap.size, i, none⟩ = false := fun i => blk_frozen B2.out i
  go_wp2_with fail
  go_at_call 92
  refine (impl_showMembers g _ _ _ (Kd.C_below HR.out (by repeat (first | (with_reducible first | exact Below.refl _ _ | apply below_alloc | apply pw_below_drewN | apply below_drew1 | refine below_step ?_ (by assumption)) | (with_reducible refine below_set ?_ (by omega))))) hg).mono ?_
  rintro q w3 ⟨rfl, hb3⟩
  by_cases v1 : rng 0 99 m = true <;> by_cases v2 : vAm a = true
  all_goals
    go_wp2
    repeat (go_quiet (fail); try go_wp2)
    go_ret2
    exact ⟨by rw [detT, detOk]; simp [*, bs_app], (by repeat (first | (with_reducible first | exact Below.refl _ _ | apply below_alloc | apply pw_below_drewN | apply below_drew1 | refine below_step ?_ (by assumption)) | (with_reducible refine below_set ?_ (by omega))))⟩
set_option maxRecDepth 100000 in
set_option maxHeartbeats 1000000 in
theorem det_else (k m a o : Int) (g : List Int) (rn rd : Int) (A : Option Addr) (c : Nat) (w : World) (HL : Aside0 (Laid w)) (HR : Aside0 ((Kd.int .i64).C w A g.length g)) (hg : g.length ≤ 1099511627776) (k0 : k ≠ 0) (k7 : k ≠ 7) (k6 : k ≠ 6) (k5 : k ≠ 5) (k4 : k ≠ 4) (k3 : k ≠ 3) :
    Calls Tryd.prog 76 #[.agg #[.int .i64 k, .int .i64 m, .int .i64 a, .int .i64 o, .slice A g.length c, .int .i64 rn, .int .i64 rd]] w fun q w' => q = .returned (.tuple #[.string (bs (detT ⟨k, m, a, o, g, rn, rd⟩)), .bool (detOk ⟨k, m, a, o, g, rn, rd⟩)]) ∧ Below w.heap.size w w' := by
  have n0 := nb k0
  have n7 := nb k7
  have n6 := nb k6
  have n5 := nb k5
  have n4 := nb k4
  have n3 := nb k3
  have lm : (memT [m]).length ≤ 21 := memT_len [m]
  have la : (amT [a]).length ≤ 62 := amT_len [a]
  go_enter Tryd.func76, Tryd.ntmps76
  go_wp2_with fail
  go_at_call 92
  refine (impl_showMembers [m] _ _ _ (lit1_at m rfl (by simp)) (by simp)).mono ?_
  rintro q w1 ⟨rfl, hb1⟩
  have B1 : Aside0 (w1.heap[w.heap.size]? = some (.cells #[.int .i64 k, .int .i64 m, .int .i64 a, .int .i64 o, .slice A g.length c, .int .i64 rn, .int .i64 rd] 46 (0, 0))) := ⟨(hb1.block w.heap.size (by simp <;> omega)).trans (by repeat (first | exact new_at _ _ _ (by simp) | refine (Below.heap_alloc _ _ _ (by simp <;> omega)).trans ?_))⟩
  have r0 : w1.cell? ⟨w.heap.size, 0, none⟩ = some (.int .i64 k) := (blk_cell B1.out 0).trans rfl
  have r1 : w1.cell? ⟨w.heap.size, 1, none⟩ = some (.int .i64 m) := (blk_cell B1.out 1).trans rfl
  have r2 : w1.cell? ⟨w.heap.size, 2, none⟩ = some (.int .i64 a) := (blk_cell B1.out 2).trans rfl
  have r3 : w1.cell? ⟨w.heap.size, 3, none⟩ = some (.int .i64 o) := (blk_cell B1.out 3).trans rfl
  have r4 : w1.cell? ⟨w.heap.size, 4, none⟩ = some (.slice A g.length c) := (blk_cell B1.out 4).trans rfl
  have r5 : w1.cell? ⟨w.heap.size, 5, none⟩ = some (.int .i64 rn) := (blk_cell B1.out 5).trans rfl
  have r6 : w1.cell? ⟨w.heap.size, 6, none⟩ = some (.int .i64 rd) := (blk_cell B1.out 6).trans rfl
  have rf : ∀ i, w1.frozen? ⟨w.heap.size, i, none⟩ = false := fun i => blk_frozen B1.out i
  go_wp2_with fail
  go_at_call 93
  refine (impl_showAmounts [a] _ _ _ (HL.out.below (by repeat (first | (with_reducible first | exact Below.refl _ _ | apply below_alloc | apply pw_below_drewN | apply below_drew1 | refine below_step ?_ (by assumption)) | (with_reducible refine below_set ?_ (by omega))))) (lit1_at a rfl (by simp)) (by simp)).mono ?_
  rintro q w2 ⟨rfl, hb2⟩
  have B2 : Aside0 (w2.heap[w.heap.size]? = some (.cells #[.int .i64 k, .int .i64 m, .int .i64 a, .int .i64 o, .slice A g.length c, .int .i64 rn, .int .i64 rd] 46 (0, 0))) := ⟨blk_below (blk_alloc B1.out _) hb2⟩
  have t0 : w2.cell? ⟨w.heap.size, 0, none⟩ = some (.int .i64 k) := (blk_cell B2.out 0).trans rfl
  have t1 : w2.cell? ⟨w.heap.size, 1, none⟩ = some (.int .i64 m) := (blk_cell B2.out 1).trans rfl
  have t2 : w2.cell? ⟨w.heap.size, 2, none⟩ = some (.int .i64 a) := (blk_cell B2.out 2).trans rfl
  have t3 : w2.cell? ⟨w.heap.size, 3, none⟩ = some (.int .i64 o) := (blk_cell B2.out 3).trans rfl
  have t4 : w2.cell? ⟨w.heap.size, 4, none⟩ = some (.slice A g.length c) := (blk_cell B2.out 4).trans rfl
  have t5 : w2.cell? ⟨w.heap.size, 5, none⟩ = some (.int .i64 rn) := (blk_cell B2.out 5).trans rfl
  have t6 : w2.cell? ⟨w.heap.size, 6, none⟩ = some (.int .i64 rd) := (blk_cell B2.out 6).trans rfl
  have tf : ∀ i, w2.frozen? ⟨w.heap.size, i, none⟩ = false := fun i => blk_frozen B2.out i
  by_cases v1 : rng 0 99 m = true
  all_goals
    go_wp2
    repeat (go_quiet (fail); try go_wp2)
    go_ret2
    exact ⟨by rw [detT, detOk]; simp [*, bs_app], (by repeat (first | (with_reducible first | exact Below.refl _ _ | apply below_alloc | apply pw_below_drewN | apply below_drew1 | refine below_step ?_ (by assumption)) | (with_reducible refine below_set ?_ (by omega))))⟩
theorem impl_showDetails (x : Event) (A : Option Addr) (c : Nat) (w : World) (hL : Laid w) (hr : (Kd.int .i64).C w A x.g.length x.g) (hg : x.g.length ≤ 1099511627776) (h1 : -9223372036854775808 ≤ x.rn ∧ x.rn ≤ 9223372036854775807) (h2 : -9223372036854775808 ≤ x.rd ∧ x.rd ≤ 9223372036854775807) :
    Calls Tryd.prog 76 #[.agg #[.int .i64 x.k, .int .i64 x.m, .int .i64 x.a, .int .i64 x.o, .slice A x.g.length c, .int .i64 x.rn, .int .i64 x.rd]] w fun q w' => q = .returned (.tuple #[.string (bs (detT x)), .bool (detOk x)]) ∧ Below w.heap.size w w' := by
  obtain ⟨k, m, a, o, g, rn, rd⟩ := x
  by_cases k0 : k = 0
  · subst k0; exact det_join m a o g rn rd A c w ⟨hL⟩ ⟨hr⟩ hg
  by_cases k7 : k = 7
  · subst k7; exact det_share m a o g rn rd A c w ⟨hL⟩ ⟨hr⟩ hg
  by_cases k6 : k = 6
  · subst k6; exact det_night m a o g rn rd A c w ⟨hL⟩ ⟨hr⟩ hg h1 h2
  by_cases k5 : k = 5
  · subst k5; exact det_fail m a o g rn rd A c w ⟨hL⟩ ⟨hr⟩ hg
  by_cases k4 : k = 4
  · subst k4; exact det_repay m a o g rn rd A c w ⟨hL⟩ ⟨hr⟩ hg
  by_cases k3 : k = 3
  · subst k3; exact det_lend m a o g rn rd A c w ⟨hL⟩ ⟨hr⟩ hg
  exact det_else k m a o g rn rd A c w ⟨hL⟩ ⟨hr⟩ hg k0 k7 k6 k5 k4 k3
end
end Go.Proofs.YtfmmpggfphmlbaaDoor
