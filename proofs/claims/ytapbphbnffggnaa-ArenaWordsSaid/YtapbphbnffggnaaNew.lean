/-
  A new arena (layer 3). Conditions: as each theorem says.
-/
import Derived.Test.YtapbphbnffggnaaTakeP
import Derived.Deep.DeepCutAuto
import Derived.Deep.Cut
namespace Go.Proofs.Ytapbphbnffggnaa
set_option linter.unusedVariables false
set_option linter.unusedSimpArgs false
open Go.RowKit

def AR.new (m : Nat) (ids : Nat × Nat × Nat) : AR := ⟨m, fun _ => -1, fun _ => 0, fun _ => 0, fun _ => false, (m : Int), ids⟩

theorem pageCells_made (m : Nat) : madeCells #[.int .i64 0, .int .i64 0] (m * 2) = pageCells (fun _ => 0) (fun _ => 0) m := by
  apply Array.ext
  · simp [pageCells, size_madeCells]
  · intro i h1 h2
    have : i % 2 = 0 ∨ i % 2 = 1 := by omega
    rcases this with h | h <;> simp [pageCells, madeCells, h]
theorem intCells_made (m : Nat) : madeCells #[.int .i64 0] m = intCells (fun _ => 0) m := by
  apply Array.ext
  · simp [intCells, size_madeCells]
  · intro i h1 h2
    simp [intCells, madeCells, Nat.mod_one]

theorem mk_pages (m : Nat) (hm : m ≤ 1000000) (w : World) : (Instr.makeSlice 85 (.int .i64 (m : Int)) (.int .i64 (m : Int))).run Try.prog w = .ok (rowAt w.heap.size m) (w.alloc (.cells (pageCells (fun _ => 0) (fun _ => 0) m) 90)) := by
  obtain ⟨i, hi, hh⟩ := Option.map_eq_some_iff.1 (show (Try.prog.info? 90).map (fun i => (i.zero, i.size, i.bytes)) = some (some (.agg #[.int .i64 0, .int .i64 0]), 2, 16) by kernel_rfl)
  simp only [Prod.mk.injEq] at hh
  obtain ⟨hz, hs, hb⟩ := hh
  have := run_make (P := Try.prog) w 85 90 i (.agg #[.int .i64 0, .int .i64 0]) Try.underlying85 hi hz .i64 .i64 m m (by omega) (Int.le_refl _) (by rw [hb]; omega) (by omega)
  rw [this, hs]
  simp [Value.cells, pageCells_made, rowAt]
theorem mk_ints (m : Nat) (hm : m ≤ 1000000) (w : World) : (Instr.makeSlice 50 (.int .i64 (m : Int)) (.int .i64 (m : Int))).run Try.prog w = .ok (rowAt w.heap.size m) (w.alloc (.cells (intCells (fun _ => 0) m) 3)) := by
  obtain ⟨i, hi, hh⟩ := Option.map_eq_some_iff.1 (show (Try.prog.info? 3).map (fun i => (i.zero, i.size, i.bytes)) = some (some (.int .i64 0), 1, 8) by kernel_rfl)
  simp only [Prod.mk.injEq] at hh
  obtain ⟨hz, hs, hb⟩ := hh
  have := run_make (P := Try.prog) w 50 3 i (.int .i64 0) Try.underlying50 hi hz .i64 .i64 m m (by omega) (Int.le_refl _) (by rw [hb]; omega) (by omega)
  rw [this, hs]
  simp [Value.cells, intCells_made, rowAt]

theorem ASizeRaw (w : World) (a pb n : Nat) (hn : n ≤ 64) (c0 : w.cell? ⟨a, 0, none⟩ = some (rowAt pb n)) : Calls Try.prog 21 #[.pointer (some ⟨a, 0, none⟩)] w fun e w' => e = .returned (.int .i64 ((n * 32 + 1 : Nat) : Int)) ∧ w = w' := by
  have h1 : IntKind.i64.wrap ((n : Int) * 32) = (n : Int) * 32 := by rw [IntKind.wrap_i64]; omega
  have h2 : IntKind.i64.wrap ((n : Int) * 32 + 1) = (n : Int) * 32 + 1 := by rw [IntKind.wrap_i64]; omega
  unfold rowAt at c0
  go_enter Try.func21, Try.ntmps21
  go_wp2_with fail
  go_ret
  exact ⟨by simp, rfl⟩

/-- A new arena ahead of its set: its three blocks. -/
structure Bare (w : World) (a pb wb m : Nat) (c : Nat → Int) : Prop where
  top : Blk w a 88 #[rowAt pb m, rowAt wb (m * 32), .pointer none, .int .i64 (m : Int)]
  pages : Blk w pb 90 (pageCells c (fun _ => 0) m)
  words : Blk w wb 3 (intCells (fun _ => 0) (m * 32))
  ap : a ≠ pb
  aw : a ≠ wb
  pw : pb ≠ wb

set_option maxHeartbeats 2000000 in
theorem ANew (n : Int) (m : Nat) (hm : (m : Int) = min (max n 0) 64) (w : World) : Calls Try.prog 18 #[.int .i64 n] w fun e w' => ∃ a F ids, e = .returned (.pointer (some ⟨a, 0, none⟩)) ∧ ArenaAt w' a (AR.new m ids) F ∧ (∀ x ∈ F, w.heap.size ≤ x) ∧ Chg [] w w' := by
  have hm64 : m ≤ 64 := by omega
  have hmk1 : ∀ w, (Instr.makeSlice 85 (.int .i64 (m : Int)) (.int .i64 (m : Int))).run Try.prog w = .ok (.slice (some ⟨w.heap.size, 0, none⟩) m m) (w.alloc (.cells (pageCells (fun _ => 0) (fun _ => 0) m) 90)) := mk_pages m (by omega)
  have hmk2 : ∀ w, (Instr.makeSlice 50 (.int .i64 ((m : Int) * 32)) (.int .i64 ((m : Int) * 32))).run Try.prog w = .ok (.slice (some ⟨w.heap.size, 0, none⟩) (m * 32) (m * 32)) (w.alloc (.cells (intCells (fun _ => 0) (m * 32)) 3)) := fun w => by
    have := mk_ints (m * 32) (by omega) w
    simpa [rowAt] using this
  have hmul : IntKind.i64.wrap ((m : Int) * 32) = (m : Int) * 32 := by rw [IntKind.wrap_i64]; omega
  go_enter Try.func18, Try.ntmps18
  go_upto_region 2 with (fail)
  have hval : (if 64 < (if n < 0 then 0 else n) then 64 else if n < 0 then 0 else n) = (m : Int) := by
    rw [hm]
    split <;> split at * <;> omega
  rw [hval]
  clear hm hval
  generalize (if n < 0 then (0 : Int) else n) = X
  go_cut [4] (fun s4 wx => ∃ a pb wb, s4 = .pointer (some ⟨a, 0, none⟩) ∧ Bare wx a pb wb m (fun _ => 0) ∧ w.heap.size ≤ a ∧ w.heap.size ≤ pb ∧ w.heap.size ≤ wb ∧ Chg [] w wx)
  case first =>
    go_region
    all_goals go_wp2_with fail
    all_goals go_meet
    · refine ⟨w.heap.size + 1 + 1, w.heap.size, w.heap.size + 1, rfl, ?_, by omega, by omega, by omega, (((Chg.refl _ _).alloc _).alloc _).alloc _ |>.drew⟩
      have h1 := ((Blk.new w 90 (pageCells (fun _ => 0) (fun _ => 0) m)).alloc (.cells (intCells (fun _ => 0) (m * 32)) 3))
      have h2 := Blk.new (w.alloc (.cells (pageCells (fun _ => 0) (fun _ => 0) m) 90)) 3 (intCells (fun _ => 0) (m * 32))
      have h3 := Blk.new ((w.alloc (.cells (pageCells (fun _ => 0) (fun _ => 0) m) 90)).alloc (.cells (intCells (fun _ => 0) (m * 32)) 3)) 88 #[rowAt w.heap.size m, rowAt (w.heap.size + 1) (m * 32), .pointer none, .int .i64 (m : Int)]
      simp at h2 h3
      exact ⟨h3.drew, (h1.alloc _).drew, (h2.alloc _).drew, by omega, by omega, by omega⟩
    · refine ⟨w.heap.size + 1 + 1, w.heap.size + 1, w.heap.size, rfl, ?_, by omega, by omega, by omega, (((Chg.refl _ _).alloc _).alloc _).alloc _ |>.drew⟩
      have h1 := ((Blk.new w 3 (intCells (fun _ => 0) (m * 32))).alloc (.cells (pageCells (fun _ => 0) (fun _ => 0) m) 90))
      have h2 := Blk.new (w.alloc (.cells (intCells (fun _ => 0) (m * 32)) 3)) 90 (pageCells (fun _ => 0) (fun _ => 0) m)
      have h3 := Blk.new ((w.alloc (.cells (intCells (fun _ => 0) (m * 32)) 3)).alloc (.cells (pageCells (fun _ => 0) (fun _ => 0) m) 90)) 88 #[rowAt (w.heap.size + 1) m, rowAt w.heap.size (m * 32), .pointer none, .int .i64 (m : Int)]
      simp at h2 h3
      exact ⟨h3.drew, (h2.alloc _).drew, (h1.alloc _).drew, by omega, by omega, by omega⟩
  case rest =>
    obtain ⟨a, pb, wb, rfl, hbare, ha, hpb, hwb, hC⟩ := hcut
    have HB := Lib.hid hbare
    have HC := Lib.hid hC
    have d0 := hbare.top.cell 0
    simp [rowAt] at d0
    clear hbare hC hmk1 hmk2 hmul
    go_wp2_with fail
    clear d0
    go_loopw [22] (fun i wr => ∃ k : Nat, k ≤ m ∧ i = .int .i64 k ∧ Bare wr a pb wb m (fun j => if j < k then -1 else 0) ∧ Chg [] w wr) (fun i _ => m - (intOf i).toNat)
    case atStart => exact ⟨0, by omega, rfl, by simpa using HB.out, HC.out⟩
    case round =>
      obtain ⟨k, hk, rfl, hb, hC⟩ := hrel
      clear HB HC
      by_cases hlt : k < m
      · have d0 := hb.top.cell 0
        simp [rowAt] at d0
        have p0 := hb.pages.cell (k * 2)
        rw [pageCells_cls _ _ _ _ hlt] at p0
        have f0 := hb.pages.frozen (k * 2)
        have hcg : Chg [pb] wr (wr.setCell ⟨pb, k * 2, none⟩ (.int .i64 (-1))) := (Chg.refl _ _).setCell (.inl (by simp)) _
        have hb2 : Bare (wr.setCell ⟨pb, k * 2, none⟩ (.int .i64 (-1))) a pb wb m (fun j => if j < k + 1 then -1 else 0) := by
          refine ⟨hcg.blk hb.top (by simp; exact hb.ap), ?_, hcg.blk hb.words (by simp; exact hb.pw.symm), hb.ap, hb.aw, hb.pw⟩
          have := hb.pages.set_ (k * 2) (.int .i64 (-1))
          rw [pageCells_setCls] at this
          refine this.as_ ?_
          congr 1
          funext j
          simp only [updN]
          by_cases h1 : j = k
          · subst h1; simp
          · rw [if_neg h1]
            by_cases h2 : j < k
            · rw [if_pos h2, if_pos (by omega)]
            · rw [if_neg h2, if_neg (by omega)]
        have HB2 := Lib.hid hb2
        have HC2 := Lib.hid (hC.setCell (p := ⟨pb, k * 2, none⟩) (.inr hpb) (.int .i64 (-1)))
        have HLT := Lib.hid hlt
        have hk0 : (0 : Int) ≤ (k : Int) := by omega
        clear hb hC hcg hb2
        go_wp2_with fail
        go_roundw
        case rel => exact ⟨k + 1, HLT.out, by go_num, HB2.out, HC2.out⟩
        case measure => have := HLT.out; simp [intOf]; omega
      · obtain rfl : k = m := by omega
        have d0 := hb.top.cell 0
        simp [rowAt] at d0
        have HB := Lib.hid hb
        have HC := Lib.hid hC
        clear hb hC
        have HTOP := Lib.hid d0
        have t2 := HB.out.top.cell 2
        have ft := HB.out.top.frozen 2
        simp at t2
        go_wp2_with fail
        refine (ASizeRaw _ a pb _ hm64 HTOP.out).mono ?_
        rintro e w' ⟨rfl, rfl⟩
        go_wp2_with fail
        refine (SNew _ (by omega) _).mono ?_
        rintro e w5 ⟨rfl, hs, hc⟩
        have hsa : a ≠ wr.heap.size := by have := HB.out.top.lt; omega
        have hsp : pb ≠ wr.heap.size := by have := HB.out.pages.lt; omega
        have hsw : wb ≠ wr.heap.size := by have := HB.out.words.lt; omega
        have top5 := hc.blk HB.out.top (by simp)
        have pg5 := hc.blk HB.out.pages (by simp)
        have wd5 := hc.blk HB.out.words (by simp)
        have t5 := top5.cell 2
        have f5 := top5.frozen 2
        simp at t5
        have d5 := top5.cell 0
        simp [rowAt] at d5
        obtain ⟨sb, hsb⟩ : ∃ sb, wr.heap.size = sb := ⟨_, rfl⟩
        rw [hsb] at hsa hsp hsw hs
        have hcg : Chg [a] w5 (w5.setCell ⟨a, 2, none⟩ (.pointer (some ⟨sb, 0, none⟩))) := (Chg.refl _ _).setCell (.inl (by simp)) _
        have hfin : AParts (w5.setCell ⟨a, 2, none⟩ (.pointer (some ⟨sb, 0, none⟩))) a (AR.new k (pb, wb, sb)) pb wb sb none := by
          refine ⟨?_, ?_, hcg.blk wd5 (by simp; exact HB.out.aw.symm), ?_, HB.out.ap, HB.out.aw, HB.out.pw, by simpa [setF] using hsa, by simpa [setF] using hsp, by simpa [setF] using hsw, hm64, rfl⟩
          · exact (top5.set_ 2 _).as_ (by simp [arenaCells, AR.new])
          · have := hcg.blk pg5 (by simp; exact HB.out.ap.symm)
            refine this.as_ ?_
            unfold AR.new
            simp only
            unfold pageCells
            congr 1
            funext i
            have : i.val / 2 < k := by omega
            simp [this]
          · refine SetIs.keep ?_ hcg (fun x hx => by simp [setF] at hx; subst hx; simp; exact fun h => hsa h.symm)
            simpa [AR.size, AR.new] using hs
        have HFIN := Lib.hid hfin
        have HCF := Lib.hid ((HC.out.trans (hc.mono (F' := []) (by simp)) (by simp)).setCell (p := ⟨a, 2, none⟩) (.inr ha) (.pointer (some ⟨sb, 0, none⟩)))
        have HSB := Lib.hid (show w.heap.size ≤ sb by have := HC.out.size; omega)
        clear hfin hcg hs hc top5 pg5 wd5 t2 ft HTOP
        rw [hsb]
        clear hsb
        go_wp2_with fail
        go_ret
        refine ⟨a, _, _, rfl, ⟨pb, wb, sb, none, rfl, HFIN.out⟩, ?_, HCF.out⟩
        intro x hx
        simp [setF] at hx
        rcases hx with rfl | rfl | rfl | rfl
        · exact ha
        · exact hpb
        · exact hwb
        · exact HSB.out
end Go.Proofs.Ytapbphbnffggnaa
