/- What the program writes for an event. Fewer than 2^40 guards; the package variables as laid. -/
import Derived.Test.YtfmmpggfphmlbaaDoorImplD
import Derived.Test.YtfmmpggfphmlbaaDoorSpecD
namespace Go.Proofs.YtfmmpggfphmlbaaDoor
open Go.RowKit Go.Proofs.YtfmmpggfphmlbaaDoorW.PrintWords
set_option linter.unusedVariables false
set_option linter.unusedSimpArgs false
def word (k : Nat) : Bs := [wJoin, wSave, wTake, wLend, wRepay, wFail, wNight, wShare].getD k []
theorem word_len (k : Nat) : (word k).length ≤ 5 := by
  by_cases h : k < 8
  · have : ∀ v : Fin 8, (word v.val).length ≤ 5 := by decide
    exact this ⟨k, h⟩
  · simp [word, List.getElem?_eq_none (show [wJoin, wSave, wTake, wLend, wRepay, wFail, wNight, wShare].length ≤ k by simp; omega)]
theorem name_cell {w : World} (hL : Laid w) (k : Nat) (h : k < 8) : w.cell? ⟨0, k, none⟩ = some (.string (bs (word k))) := by
  rw [show w.cell? ⟨0, k, none⟩ = kindNames[k]? from by simpa using World.var?_cell g_names hL.names k]
  have : ∀ v : Fin 8, kindNames[v.val]? = some (.string (bs (word v.val))) := by
    intro ⟨v, hv⟩
    rcases v with _ | _ | _ | _ | _ | _ | _ | _ | v
    all_goals first | rfl | omega
  exact this ⟨k, h⟩
theorem spi_len (n : Int) (h : -9223372036854775808 ≤ n ∧ n ≤ 9223372036854775807) : (spi n).length ≤ 22 := by have := itoa_len n h.2 h.1; simp [spi]; omega
theorem detT_len (e : Event) (h1 : -9223372036854775808 ≤ e.rn ∧ e.rn ≤ 9223372036854775807) (h2 : -9223372036854775808 ≤ e.rd ∧ e.rd ≤ 9223372036854775807) : (detT e).length ≤ 200 + 21 * e.g.length := by
  have l1 := spi_len _ h1; have l2 := spi_len _ h2
  have l3 := memT_len [e.m]; have l4 := memT_len e.g; have l5 := amT_len [e.a]; have l6 := amT_len [e.o]
  simp only [List.length_singleton] at l3 l5 l6
  unfold detT
  refine ite_len (fun _ => by simp) fun _ => ?_
  refine ite_len (fun _ => by simp) fun _ => ?_
  refine ite_len (fun _ => by rw [List.length_append]; omega) fun _ => ?_
  refine ite_len (fun _ => by omega) fun _ => ?_
  refine ite_len (fun _ => by simp only [List.length_append]; omega) fun _ => ?_
  refine ite_len (fun _ => by simp only [List.length_append]; omega) fun _ => ?_
  simp only [List.length_append]; omega
theorem showE_det (e : Event) (h0 : 0 ≤ e.k) (h7 : e.k ≤ 7) : showE e = if detOk e = true then word e.k.toNat ++ detT e else [] := by
  obtain ⟨k, m, a, o, g, rn, rd⟩ := e
  simp only at h0 h7
  have : k = 0 ∨ k = 1 ∨ k = 2 ∨ k = 3 ∨ k = 4 ∨ k = 5 ∨ k = 6 ∨ k = 7 := by omega
  have hn : ∀ x : Int, 0 ≤ x → spi x = spn x := fun x hx => by rw [spi, spn, Lib.itoa, if_neg (by omega)]; rfl
  rcases this with rfl | rfl | rfl | rfl | rfl | rfl | rfl | rfl
  · simp [showE, detOk, detT, word]
  · by_cases v1 : rng 0 99 m = true <;> by_cases v2 : vAm a = true <;> simp [showE, detOk, detT, word, memT, amT, v1, v2]
  · by_cases v1 : rng 0 99 m = true <;> by_cases v2 : vAm a = true <;> simp [showE, detOk, detT, word, memT, amT, v1, v2]
  · by_cases v1 : rng 0 99 m = true <;> by_cases v2 : vAm a = true <;> by_cases v3 : g.all (rng 0 99) = true <;> simp only [showE, detOk, detT, word, memT, amT, v1, v2, v3] <;> simp [v1, v2, v3]
  · by_cases v1 : rng 0 99 m = true <;> by_cases v2 : vAm a = true <;> by_cases v3 : vAm o = true <;> simp [showE, detOk, detT, word, memT, amT, v1, v2, v3]
  · by_cases v1 : rng 0 99 m = true <;> simp [showE, detOk, detT, word, memT, amT, v1]
  · by_cases v1 : vRate rn rd = true
    · have h := v1
      simp only [vRate, Bool.and_eq_true] at h
      have h1 := rng_t h.1; have h2 := rng_t h.2
      simp [showE, detOk, detT, word, v1, hn rn (by omega), hn rd (by omega)]
    · simp [showE, detOk, detT, word, v1]
  · simp [showE, detOk, detT, word]
theorem showE_out (e : Event) (h : e.k < 0 ∨ 7 < e.k) : showE e = [] := by
  unfold showE
  rw [if_neg (by omega), if_neg (by omega), if_neg (by omega), if_neg (show ¬ e.k = 5 by omega), if_neg (show ¬ e.k = 1 by omega), if_neg (show ¬ e.k = 2 by omega), if_neg (show ¬ e.k = 4 by omega), if_neg (show ¬ e.k = 3 by omega)]; simp
section
attribute [local go_sem] bs_size
set_option maxRecDepth 100000 in
set_option maxHeartbeats 1000000 in
theorem impl_FormatEvent (x : Event) (A : Option Addr) (c : Nat) (w : World) (hL : Laid w) (hr : (Kd.int .i64).C w A x.g.length x.g) (hg : x.g.length ≤ 1099511627776) (h1 : -9223372036854775808 ≤ x.rn ∧ x.rn ≤ 9223372036854775807) (h2 : -9223372036854775808 ≤ x.rd ∧ x.rd ≤ 9223372036854775807) :
    Calls Tryd.prog 38 #[.agg #[.int .i64 x.k, .int .i64 x.m, .int .i64 x.a, .int .i64 x.o, .slice A x.g.length c, .int .i64 x.rn, .int .i64 x.rd]] w fun q w' => q = .returned (.string (bs (showE x))) ∧ Below w.heap.size w w' := by
  have HL := Aside0.mk hL
  clear hL
  have ht := detT_len x h1 h2
  by_cases k0 : x.k < 0
  · have HX := Lib.hid (showE_out x (.inl k0))
    go_enter Tryd.func38, Tryd.ntmps38
    go_wp2
    repeat (go_quiet (fail); try go_wp2)
    go_ret
    exact ⟨ret_str (by rw [HX.out]; rfl), (by repeat (first | (with_reducible first | exact Below.refl _ _ | apply below_alloc | apply pw_below_drewN | apply below_drew1 | refine below_step ?_ (by assumption)) | (with_reducible refine below_set ?_ (by omega))))⟩
  by_cases k7 : 7 < x.k
  · have HX := Lib.hid (showE_out x (.inr k7))
    go_enter Tryd.func38, Tryd.ntmps38
    go_wp2
    repeat (go_quiet (fail); try go_wp2)
    go_ret
    exact ⟨ret_str (by rw [HX.out]; rfl), (by repeat (first | (with_reducible first | exact Below.refl _ _ | apply below_alloc | apply pw_below_drewN | apply below_drew1 | refine below_step ?_ (by assumption)) | (with_reducible refine below_set ?_ (by omega))))⟩
  have HX := Lib.hid (showE_det x (by omega) (by omega))
  obtain ⟨k', m, a, o, g, rn, rd⟩ := x
  simp only at HX hr ht k0 k7 hg h1 h2 ⊢
  obtain ⟨k, rfl⟩ : ∃ k : Nat, k' = k := ⟨k'.toNat, by omega⟩
  have hk8 : k < 8 := by omega
  have hw := word_len k
  have HR := Aside0.mk hr
  clear hr
  have HC := Lib.hid (fun (w' : World) (h : Below w.heap.size w w') => name_cell (HL.out.below h) k hk8)
  by_cases hv : detOk ⟨k, m, a, o, g, rn, rd⟩ = true
  all_goals
    go_enter Tryd.func38, Tryd.ntmps38
    go_wp2_with fail
    go_at_call 76
    refine (impl_showDetails ⟨k, m, a, o, g, rn, rd⟩ A c _ (HL.out.below (by repeat (first | (with_reducible first | exact Below.refl _ _ | apply below_alloc | apply pw_below_drewN | apply below_drew1 | refine below_step ?_ (by assumption)) | (with_reducible refine below_set ?_ (by omega))))) (Kd.C_below HR.out (by repeat (first | (with_reducible first | exact Below.refl _ _ | apply below_alloc | apply pw_below_drewN | apply below_drew1 | refine below_step ?_ (by assumption)) | (with_reducible refine below_set ?_ (by omega))))) hg h1 h2).mono ?_
    rintro q w1 ⟨rfl, hb1⟩
    have B1 : Aside0 (w1.heap[w.heap.size]? = some (.cells #[.int .i64 k, .int .i64 m, .int .i64 a, .int .i64 o, .slice A g.length c, .int .i64 rn, .int .i64 rd] 46 (0, 0))) := ⟨(hb1.block w.heap.size (by simp <;> omega)).trans (by repeat (first | exact new_at _ _ _ (by simp) | refine (Below.heap_alloc _ _ _ (by simp <;> omega)).trans ?_))⟩
    have r0 : w1.cell? ⟨w.heap.size, 0, none⟩ = some (.int .i64 k) := (blk_cell B1.out 0).trans rfl
    have r1 : w1.cell? ⟨w.heap.size, 1, none⟩ = some (.int .i64 m) := (blk_cell B1.out 1).trans rfl
    have r2 : w1.cell? ⟨w.heap.size, 2, none⟩ = some (.int .i64 a) := (blk_cell B1.out 2).trans rfl
    have r3 : w1.cell? ⟨w.heap.size, 3, none⟩ = some (.int .i64 o) := (blk_cell B1.out 3).trans rfl
    have r4 : w1.cell? ⟨w.heap.size, 4, none⟩ = some (.slice A g.length c) := (blk_cell B1.out 4).trans rfl
    have r5 : w1.cell? ⟨w.heap.size, 5, none⟩ = some (.int .i64 rn) := (blk_cell B1.out 5).trans rfl
    have r6 : w1.cell? ⟨w.heap.size, 6, none⟩ = some (.int .i64 rd) := (blk_cell B1.out 6).trans rfl
    have rf : ∀ i, w1.frozen? ⟨w.heap.size, i, none⟩ = false := fun i => blk_frozen B1.out i
    have hcell := HC.out w1 (by exact (by repeat (first | (with_reducible first | exact Below.refl _ _ | apply below_alloc | apply pw_below_drewN | apply below_drew1 | refine below_step ?_ (by assumption)) | (with_reducible refine below_set ?_ (by omega)))))
    go_wp2
    go_ret
    exact ⟨ret_str (by rw [HX.out]; simp [hv, bs_app, c_none]), (by repeat (first | (with_reducible first | exact Below.refl _ _ | apply below_alloc | apply pw_below_drewN | apply below_drew1 | refine below_step ?_ (by assumption)) | (with_reducible refine below_set ?_ (by omega))))⟩
/-- Every number of the rates is an int, and the guards are few. -/
def Fit (e : Event) : Prop := (-9223372036854775808 ≤ e.rn ∧ e.rn ≤ 9223372036854775807) ∧ (-9223372036854775808 ≤ e.rd ∧ e.rd ≤ 9223372036854775807) ∧ e.g.length ≤ 1048576
set_option maxRecDepth 100000 in
set_option maxHeartbeats 1000000 in
theorem impl_FormatBook (l : List Event) (A : Option Addr) (c : Nat) (w : World) (hL : Laid w) (hr : kEvent.C w A l.length l) (hg : ∀ e ∈ l, Fit e) :
    Calls Tryd.prog 12 #[.slice A l.length c] w fun q w' => q = .returned (.string (bs (showB l))) ∧ Below w.heap.size w w' := by
  have HR := Aside0.mk hr
  have HL := Aside0.mk hL
  have hl : l.length ≤ 9223372036854775807 := hr.2.1
  have HG := Aside0.mk hg
  clear hr hg hL
  go_enter Tryd.func12, Tryd.ntmps12
  by_cases h30 : 30 < l.length
  · go_wp2
    go_ret
    exact ⟨ret_str (by unfold showB; rw [if_pos h30]; rfl), Below.refl _ _⟩
  go_wp2
  have HI := Aside0.mk (Lib.fresh_isBuilder 61 5 w)
  go_loopw [12] (fun i wr => ∃ k : Nat, i = .int .i64 k ∧ k ≤ l.length ∧ Aside0 ((l.take k).all (fun e => !(showE e).isEmpty) = true) ∧ Aside0 (Lib.IsBuilder 61 5 w.heap.size w.heap.size (Lib.byteCells (lines (l.take k))) wr) ∧ Aside0 (Below w.heap.size w wr)) (fun i _ => l.length - (intOf i).toNat)
  case atStart => exact ⟨0, rfl, Nat.zero_le _, ⟨rfl⟩, ⟨HI.out⟩, ⟨(by repeat (first | (with_reducible first | exact Below.refl _ _ | apply below_alloc | apply pw_below_drewN | apply below_drew1 | refine below_step ?_ (by assumption)) | (with_reducible refine below_set ?_ (by omega))))⟩⟩
  case round =>
    clear HI
    obtain ⟨k, rfl, hk, hp, HI, HB⟩ := hrel
    by_cases hlt : k < l.length
    · obtain ⟨x, ad, A1, c1, hx, rfl, x0, x1, x2, x3, x4, x5, x6, hc1, hC1⟩ := at_event (Kd.C_below HR.out HB.out) k hlt
      have HN := Lib.hid (take_snoc hx.out)
      have HP := Lib.hid (evs_take (p := fun e => !(showE e).isEmpty) hx.out)
      obtain ⟨hf1, hf2, hf3⟩ := HG.out x (mem_of_at hx.out)
      have HC := Aside0.mk hC1
      clear hC1
      have hs1 := showE_len x
      have hs3 : (lines (l.take k)).length ≤ 30 * 22020297 := by
        have h1 := lines_len (l.take k) (fun e he => (HG.out e (List.mem_of_mem_take he)).2.2)
        have h2 : (l.take k).length ≤ 30 := by rw [List.length_take]; omega
        exact Nat.le_trans h1 (Nat.mul_le_mul_right _ h2)
      have HE : ∀ b : Bool, (showE x).isEmpty = b → (bs (showE x)).toList.isEmpty = b := fun b h => by rw [bs_toList]; exact h
      have HE := Lib.hid HE
      by_cases he : (showE x).isEmpty = true
      · have ht := HE.out _ he
        have he := Lib.hid he
        go_wp2_with fail
        go_at_call 38
        refine (impl_FormatEvent x A1 c1 _ (HL.out.below (below_alloc HB.out _)) (Kd.C_below HC.out (below_alloc (Below.refl _ _) _)) (by omega) hf1 hf2).mono ?_
        rintro q w1 ⟨rfl, hb1⟩
        go_wp2
        go_ret
        exact ⟨ret_str (by rw [showB_no hx.out (by simpa using he.out)]; rfl), below_step (below_alloc HB.out _) hb1⟩
      · have he : (showE x).isEmpty = false := by simpa using he
        have ht := HE.out _ he
        have he := Lib.hid he
        go_wp2_with fail
        go_at_call 38
        refine (impl_FormatEvent x A1 c1 _ (HL.out.below (below_alloc HB.out _)) (Kd.C_below HC.out (below_alloc (Below.refl _ _) _)) (by omega) hf1 hf2).mono ?_
        rintro q w1 ⟨rfl, hb1⟩
        have HI1 := Aside0.mk (build_below (build_below HI.out (below_alloc (Below.refl _ _) _)) hb1)
        clear HI
        have HB1 := Aside0.mk (below_step (below_alloc HB.out _) hb1)
        go_wp2_with fail
        go_at_call 39
        refine (writeString_any w.heap.size w.heap.size (Lib.byteCells (lines (l.take k))) _ _ HI1.out ?q3 HB1.out.size).mono ?_
        case q3 =>
          rw [Lib.byteCells_length, ByteArray.size_append, bs_size]
          have : (⟨#[10]⟩ : ByteArray).size = 1 := rfl
          omega
        rintro q w2 ⟨rfl, hI2, hb2⟩
        have HJ : Aside0 (Lib.IsBuilder 61 5 w.heap.size w.heap.size (Lib.byteCells (lines (l.take (k + 1)))) w2) := ⟨by
          rw [show (⟨#[10]⟩ : ByteArray) = bs [10] from rfl, bs_app, cells_bs, bytes_app] at hI2
          rw [HN.out, lines, List.flatMap_append]
          simpa [lines] using hI2⟩
        have HB2 := Aside0.mk (HB1.out.trans hb2)
        clear hI2 hb2
        go_wp2
        go_roundw
        case rel => exact ⟨k + 1, by go_num, by omega, ⟨by rw [HP.out, hp.out, he.out]; rfl⟩, HJ, HB2⟩
        case measure => simp [intOf]; omega
    · go_wp2_with fail
      go_at_call 40
      refine (Go.Proofs.Tryd.Builder_String_any w.heap.size w.heap.size (lines (l.take k)) _ HI.out HB.out.size).mono ?_
      rintro q w2 ⟨rfl, hb2⟩
      go_wp2
      go_ret
      exact ⟨ret_str (by have h1 := hp.out; rw [List.take_of_length_le (by omega)] at h1 ⊢; rw [showB_ok (by omega) h1]; rfl), HB.out.trans hb2⟩
end
end Go.Proofs.YtfmmpggfphmlbaaDoor
