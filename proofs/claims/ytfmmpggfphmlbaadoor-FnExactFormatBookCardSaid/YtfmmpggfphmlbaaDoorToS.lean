/- What the laws' helper that copies a list of events answers: new memory that reads alike. Sizes as the form bounds them. -/
import Derived.Test.YtfmmpggfphmlbaaDoorTo
import Derived.Test.YtfmmpggfphmlbaaDoorOwn
namespace Go.Proofs.YtfmmpggfphmlbaaDoor
open Go.RowKit Go.Proofs.YtfmmpggfphmlbaaDoorW.PrintWords
set_option linter.unusedVariables false
set_option linter.unusedSimpArgs false
theorem infoEvent : (Tryd.prog.info? 46).map (fun i => (i.zero, i.size, i.bytes)) = some (some (.agg #[.int .i64 0, .int .i64 0, .int .i64 0, .int .i64 0, .slice none 0 0, .int .i64 0, .int .i64 0]), 7, 72) := by kernel_rfl
set_option maxRecDepth 100000 in
set_option maxHeartbeats 1000000 in
theorem toEventS (l : List Event) (A : Option Addr) (c : Nat) (w : World) (hr : kEvent.C w A l.length l) (hn : l.length ≤ 1048576) (hg : ∀ e ∈ l, e.g.length ≤ 1048576) :
    Calls Tryd.prog 11 #[.slice A l.length c] w fun e w' => ∃ A1 c1, e = .returned (.slice A1 l.length c1) ∧ Kd.S kEvent 46 w' w.heap.size (fun _ => True) (.slice A1 l.length c1) l ∧ Below w.heap.size w w' := by
  have HR := Aside0.mk hr
  have HG := Aside0.mk hg
  clear hr hg
  go_enter Tryd.func11, Tryd.ntmps11
  go_wp2_with ((with_reducible refine gate_dst (N := 7) rfl ?_); refine Kd.S_make kEvent w.heap.size 46 rfl (N := 7) rfl 25 _ _ rfl (l.length : Int) rfl rfl Tryd.underlying25 _ 72 infoEvent rfl (by decide) (by omega) zEvent (ok := fun _ => True) (okp := fun _ => True) (kEvent_mkM zEvent (Kd.R_nil _ _ _ _ _)) (fun _ hk => hk) trivial (by omega) (by omega) (Below.refl _ _) (Nat.le_refl _) ?_; intro v1 w1 ho hb hg1 hn1; rw [Int.toNat_natCast] at ho; obtain ⟨A1, c1, hv⟩ := Kd.S_slice ho; rw [List.length_replicate] at hv; rw [hv] at ho ⊢; have HO := Aside0.mk ho; have HB := Aside0.mk hb; clear ho hb hg1 hn1 hv)
  go_loopw [4] (fun i wr => ∃ k : Nat, i = .int .i64 k ∧ k ≤ l.length ∧ Aside0 (Kd.S kEvent 46 wr w.heap.size (fun _ => True) (.slice A1 l.length c1) (l.take k ++ List.replicate (l.length - k) zEvent)) ∧ Aside0 (Below w.heap.size w wr)) (fun i _ => l.length - (intOf i).toNat)
  case atStart => exact ⟨0, rfl, Nat.zero_le _, ⟨by simpa using HO.out⟩, ⟨HB.out⟩⟩
  case round =>
    clear HO HB
    obtain ⟨k, rfl, hk, HO, HB⟩ := hrel
    by_cases hlt : k < l.length
    · obtain ⟨x, ad, A2, c2, hx, rfl, x0, x1, x2, x3, x4, x5, x6, hc1, hC1⟩ := at_event (Kd.C_below HR.out HB.out) k hlt
      obtain ⟨g, rfl⟩ := slice_head HO.out (by omega)
      have hgx : x.g.length * 8 ≤ 140737488355328 := by have := HG.out x (mem_of_at hx.out); omega
      have HC := Aside0.mk hC1
      clear hC1
      go_wp2_with fail
      go_at_call 37
      refine (toEvent x _ _ _ HC.out hgx).mono ?_
      rintro e w2 ⟨A3, c3, rfl, hv, hb2⟩
      have HS := Aside0.mk (S_new HO.out hb2 (own_base hv))
      have HM := Aside0.mk (kEvent_mkM (w := w2) (base := w.heap.size) (ok := fun k => some k = (Value.slice A3 x.g.length c3).ownBlock) x (Kd.R_of_own (own_less hv HB.out.size) (fun k hk => hk.symm)))
      obtain ⟨⟨cs, hcl, hcc⟩, hfr, hS, hgr⟩ := S_whole HS.out zEvent k hlt HM.out (fun _ h => h) (fun k hk => ⟨trivial, fun he => by
        obtain ⟨cells, hty⟩ := Kd.S_typed HS.out g (by simp [Value.ownBlock])
        obtain ⟨cells', hty'⟩ := own_typed hv k hk.symm
        subst he
        rw [hty] at hty'
        injection hty' with h1
        injection h1 with _ h2
        exact absurd h2 (by decide)⟩)
      obtain ⟨a0, a1, a2, a3, a4, a5, a6, rfl⟩ := len7 hcl
      have y0 : w2.cell? ⟨g, k * 7, none⟩ = some a0 := hcc 0 _ rfl
      have y1 : w2.cell? ⟨g, k * 7 + 1, none⟩ = some a1 := hcc 1 _ rfl
      have y2 : w2.cell? ⟨g, k * 7 + 2, none⟩ = some a2 := hcc 2 _ rfl
      have y3 : w2.cell? ⟨g, k * 7 + 3, none⟩ = some a3 := hcc 3 _ rfl
      have y4 : w2.cell? ⟨g, k * 7 + 4, none⟩ = some a4 := hcc 4 _ rfl
      have y5 : w2.cell? ⟨g, k * 7 + 5, none⟩ = some a5 := hcc 5 _ rfl
      have y6 : w2.cell? ⟨g, k * 7 + 6, none⟩ = some a6 := hcc 6 _ rfl
      have z0 : w2.frozen? ⟨g, k * 7, none⟩ = false := hfr 0
      have z1 : w2.frozen? ⟨g, k * 7 + 1, none⟩ = false := hfr 1
      have z2 : w2.frozen? ⟨g, k * 7 + 2, none⟩ = false := hfr 2
      have z3 : w2.frozen? ⟨g, k * 7 + 3, none⟩ = false := hfr 3
      have z4 : w2.frozen? ⟨g, k * 7 + 4, none⟩ = false := hfr 4
      have z5 : w2.frozen? ⟨g, k * 7 + 5, none⟩ = false := hfr 5
      have z6 : w2.frozen? ⟨g, k * 7 + 6, none⟩ = false := hfr 6
      have HS2 := Aside0.mk hS
      clear hcc hfr hS hgr
      have hgb : w.heap.size ≤ g := Kd.S_base HO.out g (by simp [Value.ownBlock])
      go_wp2
      have hb1 := HB.out
      go_roundw
      case rel => exact ⟨k + 1, by go_num, by omega, ⟨by rw [← fill_set (z := zEvent) hx.out hlt]; exact HS2.out⟩, ⟨below_set (below_set (below_set (below_set (below_set (below_set (below_set (below_step hb1 hb2) hgb) hgb) hgb) hgb) hgb) hgb) hgb⟩⟩
      case measure => simp [intOf]; omega
    · go_wp2
      go_ret
      exact ⟨_, _, rfl, by have h := HO.out; rw [show l.length - k = 0 from by omega, List.take_of_length_le (by omega)] at h; simpa using h, HB.out⟩
end Go.Proofs.YtfmmpggfphmlbaaDoor
