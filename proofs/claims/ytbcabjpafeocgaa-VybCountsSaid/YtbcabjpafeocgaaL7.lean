/-
  Parts of the proof, joined: Write15, Fit15. Conditions: as each part says.
-/
import Derived.Test.YtbcabjpafeocgaaL5
import Derived.Test.YtbcabjpafeocgaaL6
import Derived.Test.YtbcabjpafeocgaaL4

/-
  write of layer 15's statements. Conditions: as the theorem says.
-/
namespace Go.Proofs.Ytbcabjpafeocgaa
set_option linter.unusedVariables false
set_option linter.unusedSimpArgs false
open Go.RowKit Go.Shelf

theorem results_write {fn : Func} {s : Tmp} (h : fn.results = #[.cell s 54]) {tmps : Array Value} {w : World} {b : Nat} {v0 v1 v2 v3 v4 : Value} (hp : tmps.getD s undef = .pointer (some ⟨b, 0, none⟩)) (hb : Blk w b 54 #[v0, v1, v2, v3, v4]) :
    (results fn tmps).run Try.prog w = .ok (.agg #[v0, v1, v2, v3, v4]) w := by
  have hp' : tmps[s]?.getD undef = .pointer (some ⟨b, 0, none⟩) := by simpa using hp
  have c0 := hb.cell 0
  have c1 := hb.cell 1
  have c2 := hb.cell 2
  have c3 := hb.cell 3
  have c4 := hb.cell 4
  simp only [List.getElem?_toArray, List.getElem?_cons_zero, List.getElem?_cons_succ] at c0 c1 c2 c3 c4
  simp [results, h, hp', go_sem, c0, c1, c2, c3, c4]
theorem Sep.rowLt {w0 w : World} {L : List Res} {e : TypeId} {sz n : Nat} {g cap : Nat} {xs : List Value} (S : Sep w0 w L) (i : Nat) (hi : L[i]? = some (rowR e sz (.slice (some ⟨g, 0, none⟩) n cap) n xs)) (hn : 0 < n) : g < w.heap.size := by
  obtain ⟨F, hp, _⟩ := S.at_ hi
  exact Res.lt (rowR e sz (.slice (some ⟨g, 0, none⟩) n cap) n xs) hp g (by rw [hp.1]; simp [Value.ownBlock])
section
variable {w0 w : World} {L : List Res} {rs : List Nat} {g capl Rn : Nat}
set_option maxRecDepth 100000 in
set_option maxHeartbeats 4000000 in
theorem Write15x (S : Sep w0 w L) (i : Nat) (hi : L[i]? = some (rowR 35 1 (.slice (some ⟨g, 0, none⟩) Rn capl) Rn (nums rs))) (hRn : rs.length = Rn) (hkp : 0 < Rn) (hl40 : Rn ≤ 40) (d0 d1 d2 d3 : Int) (hw0 : 0 ≤ d0 ∧ d0 ≤ 255) (hw1 : 0 ≤ d1 ∧ d1 ≤ 255) (hw2 : 0 ≤ d2 ∧ d2 ≤ 255) (hw3 : 0 ≤ d3 ∧ d3 ≤ 255) :
    ∃ (src old new : Nat) (black : Bool), src ∈ rs ∧ (old = 0 ∨ old ∈ rs) ∧ (new = 0 ∨ new ∈ rs) ∧ Calls Try.prog 29 #[.slice (some ⟨g, 0, none⟩) Rn capl, .agg #[.int .u8 d0, .int .u8 d1, .int .u8 d2, .int .u8 d3]] w fun e w' => e = .returned (.agg #[.int .i64 (src : Int), .int .i64 (old : Int), .int .i64 (new : Int), .bool black, .bool false]) ∧ Sep w0 w' L := by
  obtain ⟨T, hT⟩ : ∃ T, w.heap.size = T := ⟨_, rfl⟩
  have hb := (S.box #[.int .u8 d0, .int .u8 d1, .int .u8 d2, .int .u8 d3] 52).box #[.int .i64 0, .int .i64 0, .int .i64 0, .bool false, .bool false] 54
  rw [World.size_alloc, hT] at hb
  have HB := Lib.hid hb
  have HI := Lib.hid hi
  obtain ⟨K1, um, ul⟩ : ∃ K1 : Nat, d0.tmod (Rn : Int) = (K1 : Int) ∧ K1 < Rn := by
    have h1 := Int.emod_nonneg d0 (show (Rn : Int) ≠ 0 by omega)
    have h2 := Int.emod_lt_of_pos d0 (show (0 : Int) < (Rn : Int) by omega)
    refine ⟨(d0 % (Rn : Int)).toNat, ?_, by omega⟩
    rw [Int.tmod_eq_emod_of_nonneg (by omega)]
    omega
  have uI : (K1 : Int) < (Rn : Int) := by omega
  have u0 : (0 : Int) ≤ (K1 : Int) := by omega
  obtain ⟨K2, vm, vl⟩ : ∃ K2 : Nat, d1.tmod (Rn : Int) = (K2 : Int) ∧ K2 < Rn := by
    have h1 := Int.emod_nonneg d1 (show (Rn : Int) ≠ 0 by omega)
    have h2 := Int.emod_lt_of_pos d1 (show (0 : Int) < (Rn : Int) by omega)
    refine ⟨(d1 % (Rn : Int)).toNat, ?_, by omega⟩
    rw [Int.tmod_eq_emod_of_nonneg (by omega)]
    omega
  have vI : (K2 : Int) < (Rn : Int) := by omega
  have v0 : (0 : Int) ≤ (K2 : Int) := by omega
  obtain ⟨K3, tm, tl⟩ : ∃ K3 : Nat, d2.tmod (Rn : Int) = (K3 : Int) ∧ K3 < Rn := by
    have h1 := Int.emod_nonneg d2 (show (Rn : Int) ≠ 0 by omega)
    have h2 := Int.emod_lt_of_pos d2 (show (0 : Int) < (Rn : Int) by omega)
    refine ⟨(d2 % (Rn : Int)).toNat, ?_, by omega⟩
    rw [Int.tmod_eq_emod_of_nonneg (by omega)]
    omega
  have tI : (K3 : Int) < (Rn : Int) := by omega
  have t0 : (0 : Int) ≤ (K3 : Int) := by omega
  obtain ⟨rx, hx⟩ : ∃ x, rs[K1]? = some x := ⟨_, List.getElem?_eq_getElem (by rw [hRn]; exact ul)⟩
  obtain ⟨ry, hy⟩ : ∃ x, rs[K2]? = some x := ⟨_, List.getElem?_eq_getElem (by rw [hRn]; exact vl)⟩
  obtain ⟨rz, hz⟩ : ∃ x, rs[K3]? = some x := ⟨_, List.getElem?_eq_getElem (by rw [hRn]; exact tl)⟩
  have HX := Lib.hid hx
  have HY := Lib.hid hy
  have HZ := Lib.hid hz
  have HRN := Lib.hid hRn
  have hkz : ¬ (Rn : Int) = 0 := by omega
  have hkb : ((Rn : Int) == 0) = false := by simp; omega
  have hro : Try.prog.follows .mixedOrders = true := by kernel_rfl
  have hkzn : ¬ Rn = 0 := by omega
  have hwr0 : IntKind.i64.wrap d0 = d0 := by rw [IntKind.wrap_i64]; omega
  have hwr1 : IntKind.i64.wrap d1 = d1 := by rw [IntKind.wrap_i64]; omega
  have hwr2 : IntKind.i64.wrap d2 = d2 := by rw [IntKind.wrap_i64]; omega
  have ha3 := and8_3 hw3
  have ha4 := and8_4 hw3
  have ha24 := and8_24 hw3
  clear S hb hi hx hy hz hRn
  rcases (by omega : d3 / 4 % 2 = 0 ∨ d3 / 4 % 2 = 1) with h4 | h4
  · rw [h4] at ha4
    simp only [Int.mul_zero] at ha4
    rcases (by omega : d3 / 8 % 4 = 0 ∨ 0 < d3 / 8 % 4) with h24 | h24
    · rw [h24] at ha24
      simp only [Int.mul_zero] at ha24
      refine ⟨rx, 0, 0, decide (0 < d3 % 4), List.mem_of_getElem? HX.out, .inl rfl, .inl rfl, ?_⟩
      go_enter Try.func29, Try.ntmps29
      go_wp2
      obtain ⟨wd, hwd⟩ : ∃ wd, ((w.alloc (.cells #[.int .u8 d0, .int .u8 d1, .int .u8 d2, .int .u8 d3] 52)).alloc (.cells #[.int .i64 0, .int .i64 0, .int .i64 0, .bool false, .bool false] 54)).drew = wd := ⟨_, rfl⟩
      have hd := HB.out.drew
      rw [hwd] at hd
      have k1 := (hd.blk 1 rfl).cell 0
      have k2 := (hd.blk 1 rfl).cell 3
      simp only [List.getElem?_toArray, List.getElem?_cons_zero, List.getElem?_cons_succ] at k1 k2
      have k3 := hd.rowCell (i + 2) (by simpa using HI.out) K1 _ (nums_get _ _ _ HX.out)
      have hd2 := hd.box #[.int .i64 0, .int .i64 0, .int .i64 0, .bool false, .bool false] 54
      have l1 := (hd2.blk 2 rfl).cell 0
      have l2 := (hd2.blk 2 rfl).cell 3
      simp only [List.getElem?_toArray, List.getElem?_cons_zero, List.getElem?_cons_succ] at l1 l2
      have l3 := hd2.rowCell (i + 3) (by simpa using HI.out) K1 _ (nums_get _ _ _ HX.out)
      have hd3 := hd.box #[.int .i64 (rx : Int), .int .i64 0, .int .i64 0, .bool (decide (0 < d3 % 4)), .bool false] 54
      have m1 := (hd3.blk 2 rfl).cell 0
      have m2 := (hd3.blk 2 rfl).cell 3
      simp only [List.getElem?_toArray, List.getElem?_cons_zero, List.getElem?_cons_succ] at m1 m2
      have m3 := hd3.rowCell (i + 3) (by simpa using HI.out) K1 _ (nums_get _ _ _ HX.out)
      have HB1 := Lib.hid hd
      clear hd hd2 hd3
      refine calmP ?_
      refine wp_region_float (fun W => W.cell? ⟨T, 0, none⟩ = some (.int .u8 d0) ∧ W.cell? ⟨T, 3, none⟩ = some (.int .u8 d3) ∧ W.cell? ⟨g, K1, none⟩ = some (.int .i64 (rx : Int))) hro ?_
      rw [hwd]
      clear hwd
      refine wpAnyC_take (i := 0) (v := ?v1) rfl (by kernel_rfl) (by kernel_rfl) (by kernel_rfl) (fun _ _ _ h => h) (.inl ⟨?w1, ?y1⟩) ?h1
      case w1 => kernel_rfl
      case y1 =>
        intro W hf
        obtain ⟨hf1, hf2, hf3⟩ := hf
        unfold yieldsAt
        go_simp
        all_goals first | rfl | exact ⟨rfl, rfl⟩
      simp only [List.getElem_toArray, List.getElem_cons_zero, List.getElem_cons_succ, Act.put, List.setIfInBounds_toArray, List.set_cons_succ, List.set_cons_zero]
      refine wpAnyC_take (i := 1) (v := ?v2) rfl (by kernel_rfl) (by kernel_rfl) (by kernel_rfl) (fun _ _ _ h => h) (.inl ⟨?w2, ?y2⟩) ?h2
      case w2 => kernel_rfl
      case y2 =>
        intro W hf
        obtain ⟨hf1, hf2, hf3⟩ := hf
        unfold yieldsAt
        go_simp
        all_goals first | rfl | exact ⟨rfl, rfl⟩
      simp only [List.getElem_toArray, List.getElem_cons_zero, List.getElem_cons_succ, Act.put, List.setIfInBounds_toArray, List.set_cons_succ, List.set_cons_zero]
      refine wpAnyC_take (i := 2) (v := ?v3) rfl (by kernel_rfl) (by kernel_rfl) (by kernel_rfl) (fun _ _ _ h => h) (.inl ⟨?w3, ?y3⟩) ?h3
      case w3 => kernel_rfl
      case y3 =>
        intro W hf
        obtain ⟨hf1, hf2, hf3⟩ := hf
        unfold yieldsAt
        go_simp
        all_goals first | rfl | exact ⟨rfl, rfl⟩
      simp only [List.getElem_toArray, List.getElem_cons_zero, List.getElem_cons_succ, Act.put, List.setIfInBounds_toArray, List.set_cons_succ, List.set_cons_zero]
      refine wpAnyC_take (i := 3) (v := ?v4) rfl (by kernel_rfl) (by kernel_rfl) (by kernel_rfl) (fun _ _ _ h => h) (.inl ⟨?w4, ?y4⟩) ?h4
      case w4 => kernel_rfl
      case y4 =>
        intro W hf
        obtain ⟨hf1, hf2, hf3⟩ := hf
        unfold yieldsAt
        go_simp
        all_goals first | rfl | exact ⟨rfl, rfl⟩
      simp only [List.getElem_toArray, List.getElem_cons_zero, List.getElem_cons_succ, Act.put, List.setIfInBounds_toArray, List.set_cons_succ, List.set_cons_zero]
      refine wpAnyC_take (i := 4) (v := ?v5) rfl (by kernel_rfl) (by kernel_rfl) (by kernel_rfl) (fun _ _ _ h => h) (.inl ⟨?w5, ?y5⟩) ?h5
      case w5 => kernel_rfl
      case y5 =>
        intro W hf
        obtain ⟨hf1, hf2, hf3⟩ := hf
        unfold yieldsAt
        go_simp
        all_goals first | rfl | exact ⟨rfl, rfl⟩
      simp only [List.getElem_toArray, List.getElem_cons_zero, List.getElem_cons_succ, Act.put, List.setIfInBounds_toArray, List.set_cons_succ, List.set_cons_zero]
      refine wpAnyC_take (i := 5) (v := ?v6) rfl (by kernel_rfl) (by kernel_rfl) (by kernel_rfl) (fun _ _ _ h => h) (.inl ⟨?w6, ?y6⟩) ?h6
      case w6 => kernel_rfl
      case y6 =>
        intro W hf
        obtain ⟨hf1, hf2, hf3⟩ := hf
        unfold yieldsAt
        go_simp
        all_goals first | rfl | exact ⟨rfl, rfl⟩
      simp only [List.getElem_toArray, List.getElem_cons_zero, List.getElem_cons_succ, Act.put, List.setIfInBounds_toArray, List.set_cons_succ, List.set_cons_zero]
      refine wpAnyC_take (i := 6) (v := ?v7) rfl (by kernel_rfl) (by kernel_rfl) (by kernel_rfl) (fun _ _ _ h => h) (.inl ⟨?w7, ?y7⟩) ?h7
      case w7 => kernel_rfl
      case y7 =>
        intro W hf
        obtain ⟨hf1, hf2, hf3⟩ := hf
        unfold yieldsAt
        go_simp
        all_goals first | rfl | exact ⟨rfl, rfl⟩
      simp only [List.getElem_toArray, List.getElem_cons_zero, List.getElem_cons_succ, Act.put, List.setIfInBounds_toArray, List.set_cons_succ, List.set_cons_zero]
      refine wpAnyC_take (i := 7) (v := ?v8) rfl (by kernel_rfl) (by kernel_rfl) (by kernel_rfl) (fun _ _ _ h => h) (.inl ⟨?w8, ?y8⟩) ?h8
      case w8 => kernel_rfl
      case y8 =>
        intro W hf
        obtain ⟨hf1, hf2, hf3⟩ := hf
        unfold yieldsAt
        go_simp
        all_goals first | rfl | exact ⟨rfl, rfl⟩
      simp only [List.getElem_toArray, List.getElem_cons_zero, List.getElem_cons_succ, Act.put, List.setIfInBounds_toArray, List.set_cons_succ, List.set_cons_zero]
      refine wpAnyC_take (i := 8) (v := ?v9) rfl (by kernel_rfl) (by kernel_rfl) (by kernel_rfl) (fun _ _ _ h => h) (.inl ⟨?w9, ?y9⟩) ?h9
      case w9 => kernel_rfl
      case y9 =>
        intro W hf
        obtain ⟨hf1, hf2, hf3⟩ := hf
        unfold yieldsAt
        go_simp
        all_goals first | rfl | exact ⟨rfl, rfl⟩
      simp only [List.getElem_toArray, List.getElem_cons_zero, List.getElem_cons_succ, Act.put, List.setIfInBounds_toArray, List.set_cons_succ, List.set_cons_zero]
      refine wpAnyC_take (i := 9) (v := ?v10) rfl (by kernel_rfl) (by kernel_rfl) (by kernel_rfl) (fun _ _ _ h => h) (.inl ⟨?w10, ?y10⟩) ?h10
      case w10 => kernel_rfl
      case y10 =>
        intro W hf
        obtain ⟨hf1, hf2, hf3⟩ := hf
        unfold yieldsAt
        go_simp
        all_goals first | rfl | exact ⟨rfl, rfl⟩
      simp only [List.getElem_toArray, List.getElem_cons_zero, List.getElem_cons_succ, Act.put, List.setIfInBounds_toArray, List.set_cons_succ, List.set_cons_zero]
      refine wpAnyC_take (i := 10) (v := ?v11) rfl (by kernel_rfl) (by kernel_rfl) (by kernel_rfl) (fun _ _ _ h => h) (.inl ⟨?w11, ?y11⟩) ?h11
      case w11 => kernel_rfl
      case y11 =>
        intro W hf
        obtain ⟨hf1, hf2, hf3⟩ := hf
        unfold yieldsAt
        go_simp
        all_goals first | rfl | exact ⟨rfl, rfl⟩
      simp only [List.getElem_toArray, List.getElem_cons_zero, List.getElem_cons_succ, Act.put, List.setIfInBounds_toArray, List.set_cons_succ, List.set_cons_zero]
      refine wpAnyC_take (i := 11) (v := ?v12) rfl (by kernel_rfl) (by kernel_rfl) (by kernel_rfl) (fun _ _ _ h => h) (.inl ⟨?w12, ?y12⟩) ?h12
      case w12 => kernel_rfl
      case y12 =>
        intro W hf
        obtain ⟨hf1, hf2, hf3⟩ := hf
        unfold yieldsAt
        go_simp
        all_goals first | rfl | exact ⟨rfl, rfl⟩
      simp only [List.getElem_toArray, List.getElem_cons_zero, List.getElem_cons_succ, Act.put, List.setIfInBounds_toArray, List.set_cons_succ, List.set_cons_zero]
      refine wpAnyC_take (i := 12) (v := ?v13) rfl (by kernel_rfl) (by kernel_rfl) (by kernel_rfl) (fun _ _ _ h => h) (.inl ⟨?w13, ?y13⟩) ?h13
      case w13 => kernel_rfl
      case y13 =>
        intro W hf
        obtain ⟨hf1, hf2, hf3⟩ := hf
        unfold yieldsAt
        go_simp
        all_goals first | rfl | exact ⟨rfl, rfl⟩
      simp only [List.getElem_toArray, List.getElem_cons_zero, List.getElem_cons_succ, Act.put, List.setIfInBounds_toArray, List.set_cons_succ, List.set_cons_zero]
      refine wpAnyC_take (i := 13) (v := ?v14) rfl (by kernel_rfl) (by kernel_rfl) (by kernel_rfl) (fun _ _ _ h => h) (.inl ⟨?w14, ?y14⟩) ?h14
      case w14 => kernel_rfl
      case y14 =>
        intro W hf
        obtain ⟨hf1, hf2, hf3⟩ := hf
        unfold yieldsAt
        go_simp
        all_goals first | rfl | exact ⟨rfl, rfl⟩
      simp only [List.getElem_toArray, List.getElem_cons_zero, List.getElem_cons_succ, Act.put, List.setIfInBounds_toArray, List.set_cons_succ, List.set_cons_zero]
      refine wpAnyC_one (i := 14) rfl (by kernel_rfl) ⟨k1, k2, k3⟩ rfl ?_
      intro K hK
      go_simp
      refine hK _ _ ?_
      try simp only [List.getElem_toArray, List.getElem_cons_zero, List.getElem_cons_succ, Act.put, List.setIfInBounds_toArray, List.set_cons_succ, List.set_cons_zero]
      refine wpAnyC_one (i := 15) rfl (by kernel_rfl) ⟨l1, l2, l3⟩ rfl ?_
      intro K hK
      go_simp
      refine hK _ _ ?_
      try simp only [List.getElem_toArray, List.getElem_cons_zero, List.getElem_cons_succ, Act.put, List.setIfInBounds_toArray, List.set_cons_succ, List.set_cons_zero]
      refine wpAnyC_done (by kernel_rfl) ⟨m1, m2, m3⟩ ?_ _
      try simp only [List.getElem_toArray, List.getElem_cons_zero, List.getElem_cons_succ, Act.put, List.setIfInBounds_toArray, List.set_cons_succ, List.set_cons_zero]
      clear k1 k2 k3 l1 l2 l3 m1 m2 m3
      have hb2 := HB1.out.box #[.int .i64 (rx : Int), .int .i64 0, .int .i64 0, .bool (decide (0 < d3 % 4)), .bool false] 54
      obtain ⟨B, hB⟩ : ∃ B, wd.heap.size = B := ⟨_, rfl⟩
      rw [hB] at hb2
      have h3 := HB1.out
      have ltT := (h3.blk 1 rfl).lt
      have ltR := (h3.blk 0 rfl).lt
      have ltg : g < wd.heap.size := h3.rowLt (i + 2) (by simpa using HI.out) (by omega)
      have a1 : ∀ o, (wd.alloc o).cell? ⟨T, 1, none⟩ = some (.int .u8 d1) := fun o => (World.cell?_alloc_past _ _ _ ltT).trans (by have := (h3.blk 1 rfl).cell 1; simpa using this)
      have a2 : ∀ o, (wd.alloc o).cell? ⟨T, 2, none⟩ = some (.int .u8 d2) := fun o => (World.cell?_alloc_past _ _ _ ltT).trans (by have := (h3.blk 1 rfl).cell 2; simpa using this)
      have a3 : ∀ o, (wd.alloc o).cell? ⟨T, 3, none⟩ = some (.int .u8 d3) := fun o => (World.cell?_alloc_past _ _ _ ltT).trans (by have := (h3.blk 1 rfl).cell 3; simpa using this)
      have cy : ∀ o, (wd.alloc o).cell? ⟨g, K2, none⟩ = some (.int .i64 (ry : Int)) := fun o => (World.cell?_alloc_past _ _ _ ltg).trans (h3.rowCell (i + 2) (by simpa using HI.out) K2 _ (nums_get _ _ _ HY.out))
      have cz : ∀ o, (wd.alloc o).cell? ⟨g, K3, none⟩ = some (.int .i64 (rz : Int)) := fun o => (World.cell?_alloc_past _ _ _ ltg).trans (h3.rowCell (i + 2) (by simpa using HI.out) K3 _ (nums_get _ _ _ HZ.out))
      have r0 : ∀ o, (wd.alloc o).cell? ⟨T + 1, 0, none⟩ = some (.int .i64 0) := fun o => (World.cell?_alloc_past _ _ _ ltR).trans (by have := (h3.blk 0 rfl).cell 0; simpa using this)
      have r1 : ∀ o, (wd.alloc o).cell? ⟨T + 1, 1, none⟩ = some (.int .i64 0) := fun o => (World.cell?_alloc_past _ _ _ ltR).trans (by have := (h3.blk 0 rfl).cell 1; simpa using this)
      have r2 : ∀ o, (wd.alloc o).cell? ⟨T + 1, 2, none⟩ = some (.int .i64 0) := fun o => (World.cell?_alloc_past _ _ _ ltR).trans (by have := (h3.blk 0 rfl).cell 2; simpa using this)
      have r3 : ∀ o, (wd.alloc o).cell? ⟨T + 1, 3, none⟩ = some (.bool false) := fun o => (World.cell?_alloc_past _ _ _ ltR).trans (by have := (h3.blk 0 rfl).cell 3; simpa using this)
      have r4 : ∀ o, (wd.alloc o).cell? ⟨T + 1, 4, none⟩ = some (.bool false) := fun o => (World.cell?_alloc_past _ _ _ ltR).trans (by have := (h3.blk 0 rfl).cell 4; simpa using this)
      have fr : ∀ o j, (wd.alloc o).frozen? ⟨T + 1, j, none⟩ = false := fun o j => ((h3.alloc o).blk 1 rfl).frozen j
      have hbx := HB1.out.box #[.int .i64 (rx : Int), .int .i64 0, .int .i64 0, .bool (decide (0 < d3 % 4)), .bool false] 54
      rw [hB] at hbx
      have HBX := Lib.hid hbx
      clear hbx hb2 h3 ltT ltR ltg HB1
      have hs_ := ((((((HBX.out.setCell 1 rfl 0 (.int .i64 (rx : Int))).setCell 1 rfl 1 (.int .i64 0)).setCell 1 rfl 2 (.int .i64 0)).setCell 1 rfl 3 (.bool (decide (0 < d3 % 4)))).setCell 1 rfl 4 (.bool false)))
      simp only [List.set_cons_succ, List.set_cons_zero, List.setIfInBounds_toArray] at hs_
      have HSX := Lib.hid hs_
      clear hs_
      go_wp2
      have hs_ := HSX.out
      refine bodyPost_ret (results_write rfl rfl (hs_.blk 1 rfl)) rfl ?_
      exact ⟨rfl, hs_.tail.tail.tail⟩
    · have hp24 : 0 < 8 * (d3 / 8 % 4) := by omega
      refine ⟨rx, 0, rz, decide (0 < d3 % 4), List.mem_of_getElem? HX.out, .inl rfl, .inr (List.mem_of_getElem? HZ.out), ?_⟩
      go_enter Try.func29, Try.ntmps29
      go_wp2
      obtain ⟨wd, hwd⟩ : ∃ wd, ((w.alloc (.cells #[.int .u8 d0, .int .u8 d1, .int .u8 d2, .int .u8 d3] 52)).alloc (.cells #[.int .i64 0, .int .i64 0, .int .i64 0, .bool false, .bool false] 54)).drew = wd := ⟨_, rfl⟩
      have hd := HB.out.drew
      rw [hwd] at hd
      have k1 := (hd.blk 1 rfl).cell 0
      have k2 := (hd.blk 1 rfl).cell 3
      simp only [List.getElem?_toArray, List.getElem?_cons_zero, List.getElem?_cons_succ] at k1 k2
      have k3 := hd.rowCell (i + 2) (by simpa using HI.out) K1 _ (nums_get _ _ _ HX.out)
      have hd2 := hd.box #[.int .i64 0, .int .i64 0, .int .i64 0, .bool false, .bool false] 54
      have l1 := (hd2.blk 2 rfl).cell 0
      have l2 := (hd2.blk 2 rfl).cell 3
      simp only [List.getElem?_toArray, List.getElem?_cons_zero, List.getElem?_cons_succ] at l1 l2
      have l3 := hd2.rowCell (i + 3) (by simpa using HI.out) K1 _ (nums_get _ _ _ HX.out)
      have hd3 := hd.box #[.int .i64 (rx : Int), .int .i64 0, .int .i64 0, .bool (decide (0 < d3 % 4)), .bool false] 54
      have m1 := (hd3.blk 2 rfl).cell 0
      have m2 := (hd3.blk 2 rfl).cell 3
      simp only [List.getElem?_toArray, List.getElem?_cons_zero, List.getElem?_cons_succ] at m1 m2
      have m3 := hd3.rowCell (i + 3) (by simpa using HI.out) K1 _ (nums_get _ _ _ HX.out)
      have HB1 := Lib.hid hd
      clear hd hd2 hd3
      refine calmP ?_
      refine wp_region_float (fun W => W.cell? ⟨T, 0, none⟩ = some (.int .u8 d0) ∧ W.cell? ⟨T, 3, none⟩ = some (.int .u8 d3) ∧ W.cell? ⟨g, K1, none⟩ = some (.int .i64 (rx : Int))) hro ?_
      rw [hwd]
      clear hwd
      refine wpAnyC_take (i := 0) (v := ?v15) rfl (by kernel_rfl) (by kernel_rfl) (by kernel_rfl) (fun _ _ _ h => h) (.inl ⟨?w15, ?y15⟩) ?h15
      case w15 => kernel_rfl
      case y15 =>
        intro W hf
        obtain ⟨hf1, hf2, hf3⟩ := hf
        unfold yieldsAt
        go_simp
        all_goals first | rfl | exact ⟨rfl, rfl⟩
      simp only [List.getElem_toArray, List.getElem_cons_zero, List.getElem_cons_succ, Act.put, List.setIfInBounds_toArray, List.set_cons_succ, List.set_cons_zero]
      refine wpAnyC_take (i := 1) (v := ?v16) rfl (by kernel_rfl) (by kernel_rfl) (by kernel_rfl) (fun _ _ _ h => h) (.inl ⟨?w16, ?y16⟩) ?h16
      case w16 => kernel_rfl
      case y16 =>
        intro W hf
        obtain ⟨hf1, hf2, hf3⟩ := hf
        unfold yieldsAt
        go_simp
        all_goals first | rfl | exact ⟨rfl, rfl⟩
      simp only [List.getElem_toArray, List.getElem_cons_zero, List.getElem_cons_succ, Act.put, List.setIfInBounds_toArray, List.set_cons_succ, List.set_cons_zero]
      refine wpAnyC_take (i := 2) (v := ?v17) rfl (by kernel_rfl) (by kernel_rfl) (by kernel_rfl) (fun _ _ _ h => h) (.inl ⟨?w17, ?y17⟩) ?h17
      case w17 => kernel_rfl
      case y17 =>
        intro W hf
        obtain ⟨hf1, hf2, hf3⟩ := hf
        unfold yieldsAt
        go_simp
        all_goals first | rfl | exact ⟨rfl, rfl⟩
      simp only [List.getElem_toArray, List.getElem_cons_zero, List.getElem_cons_succ, Act.put, List.setIfInBounds_toArray, List.set_cons_succ, List.set_cons_zero]
      refine wpAnyC_take (i := 3) (v := ?v18) rfl (by kernel_rfl) (by kernel_rfl) (by kernel_rfl) (fun _ _ _ h => h) (.inl ⟨?w18, ?y18⟩) ?h18
      case w18 => kernel_rfl
      case y18 =>
        intro W hf
        obtain ⟨hf1, hf2, hf3⟩ := hf
        unfold yieldsAt
        go_simp
        all_goals first | rfl | exact ⟨rfl, rfl⟩
      simp only [List.getElem_toArray, List.getElem_cons_zero, List.getElem_cons_succ, Act.put, List.setIfInBounds_toArray, List.set_cons_succ, List.set_cons_zero]
      refine wpAnyC_take (i := 4) (v := ?v19) rfl (by kernel_rfl) (by kernel_rfl) (by kernel_rfl) (fun _ _ _ h => h) (.inl ⟨?w19, ?y19⟩) ?h19
      case w19 => kernel_rfl
      case y19 =>
        intro W hf
        obtain ⟨hf1, hf2, hf3⟩ := hf
        unfold yieldsAt
        go_simp
        all_goals first | rfl | exact ⟨rfl, rfl⟩
      simp only [List.getElem_toArray, List.getElem_cons_zero, List.getElem_cons_succ, Act.put, List.setIfInBounds_toArray, List.set_cons_succ, List.set_cons_zero]
      refine wpAnyC_take (i := 5) (v := ?v20) rfl (by kernel_rfl) (by kernel_rfl) (by kernel_rfl) (fun _ _ _ h => h) (.inl ⟨?w20, ?y20⟩) ?h20
      case w20 => kernel_rfl
      case y20 =>
        intro W hf
        obtain ⟨hf1, hf2, hf3⟩ := hf
        unfold yieldsAt
        go_simp
        all_goals first | rfl | exact ⟨rfl, rfl⟩
      simp only [List.getElem_toArray, List.getElem_cons_zero, List.getElem_cons_succ, Act.put, List.setIfInBounds_toArray, List.set_cons_succ, List.set_cons_zero]
      refine wpAnyC_take (i := 6) (v := ?v21) rfl (by kernel_rfl) (by kernel_rfl) (by kernel_rfl) (fun _ _ _ h => h) (.inl ⟨?w21, ?y21⟩) ?h21
      case w21 => kernel_rfl
      case y21 =>
        intro W hf
        obtain ⟨hf1, hf2, hf3⟩ := hf
        unfold yieldsAt
        go_simp
        all_goals first | rfl | exact ⟨rfl, rfl⟩
      simp only [List.getElem_toArray, List.getElem_cons_zero, List.getElem_cons_succ, Act.put, List.setIfInBounds_toArray, List.set_cons_succ, List.set_cons_zero]
      refine wpAnyC_take (i := 7) (v := ?v22) rfl (by kernel_rfl) (by kernel_rfl) (by kernel_rfl) (fun _ _ _ h => h) (.inl ⟨?w22, ?y22⟩) ?h22
      case w22 => kernel_rfl
      case y22 =>
        intro W hf
        obtain ⟨hf1, hf2, hf3⟩ := hf
        unfold yieldsAt
        go_simp
        all_goals first | rfl | exact ⟨rfl, rfl⟩
      simp only [List.getElem_toArray, List.getElem_cons_zero, List.getElem_cons_succ, Act.put, List.setIfInBounds_toArray, List.set_cons_succ, List.set_cons_zero]
      refine wpAnyC_take (i := 8) (v := ?v23) rfl (by kernel_rfl) (by kernel_rfl) (by kernel_rfl) (fun _ _ _ h => h) (.inl ⟨?w23, ?y23⟩) ?h23
      case w23 => kernel_rfl
      case y23 =>
        intro W hf
        obtain ⟨hf1, hf2, hf3⟩ := hf
        unfold yieldsAt
        go_simp
        all_goals first | rfl | exact ⟨rfl, rfl⟩
      simp only [List.getElem_toArray, List.getElem_cons_zero, List.getElem_cons_succ, Act.put, List.setIfInBounds_toArray, List.set_cons_succ, List.set_cons_zero]
      refine wpAnyC_take (i := 9) (v := ?v24) rfl (by kernel_rfl) (by kernel_rfl) (by kernel_rfl) (fun _ _ _ h => h) (.inl ⟨?w24, ?y24⟩) ?h24
      case w24 => kernel_rfl
      case y24 =>
        intro W hf
        obtain ⟨hf1, hf2, hf3⟩ := hf
        unfold yieldsAt
        go_simp
        all_goals first | rfl | exact ⟨rfl, rfl⟩
      simp only [List.getElem_toArray, List.getElem_cons_zero, List.getElem_cons_succ, Act.put, List.setIfInBounds_toArray, List.set_cons_succ, List.set_cons_zero]
      refine wpAnyC_take (i := 10) (v := ?v25) rfl (by kernel_rfl) (by kernel_rfl) (by kernel_rfl) (fun _ _ _ h => h) (.inl ⟨?w25, ?y25⟩) ?h25
      case w25 => kernel_rfl
      case y25 =>
        intro W hf
        obtain ⟨hf1, hf2, hf3⟩ := hf
        unfold yieldsAt
        go_simp
        all_goals first | rfl | exact ⟨rfl, rfl⟩
      simp only [List.getElem_toArray, List.getElem_cons_zero, List.getElem_cons_succ, Act.put, List.setIfInBounds_toArray, List.set_cons_succ, List.set_cons_zero]
      refine wpAnyC_take (i := 11) (v := ?v26) rfl (by kernel_rfl) (by kernel_rfl) (by kernel_rfl) (fun _ _ _ h => h) (.inl ⟨?w26, ?y26⟩) ?h26
      case w26 => kernel_rfl
      case y26 =>
        intro W hf
        obtain ⟨hf1, hf2, hf3⟩ := hf
        unfold yieldsAt
        go_simp
        all_goals first | rfl | exact ⟨rfl, rfl⟩
      simp only [List.getElem_toArray, List.getElem_cons_zero, List.getElem_cons_succ, Act.put, List.setIfInBounds_toArray, List.set_cons_succ, List.set_cons_zero]
      refine wpAnyC_take (i := 12) (v := ?v27) rfl (by kernel_rfl) (by kernel_rfl) (by kernel_rfl) (fun _ _ _ h => h) (.inl ⟨?w27, ?y27⟩) ?h27
      case w27 => kernel_rfl
      case y27 =>
        intro W hf
        obtain ⟨hf1, hf2, hf3⟩ := hf
        unfold yieldsAt
        go_simp
        all_goals first | rfl | exact ⟨rfl, rfl⟩
      simp only [List.getElem_toArray, List.getElem_cons_zero, List.getElem_cons_succ, Act.put, List.setIfInBounds_toArray, List.set_cons_succ, List.set_cons_zero]
      refine wpAnyC_take (i := 13) (v := ?v28) rfl (by kernel_rfl) (by kernel_rfl) (by kernel_rfl) (fun _ _ _ h => h) (.inl ⟨?w28, ?y28⟩) ?h28
      case w28 => kernel_rfl
      case y28 =>
        intro W hf
        obtain ⟨hf1, hf2, hf3⟩ := hf
        unfold yieldsAt
        go_simp
        all_goals first | rfl | exact ⟨rfl, rfl⟩
      simp only [List.getElem_toArray, List.getElem_cons_zero, List.getElem_cons_succ, Act.put, List.setIfInBounds_toArray, List.set_cons_succ, List.set_cons_zero]
      refine wpAnyC_one (i := 14) rfl (by kernel_rfl) ⟨k1, k2, k3⟩ rfl ?_
      intro K hK
      go_simp
      refine hK _ _ ?_
      try simp only [List.getElem_toArray, List.getElem_cons_zero, List.getElem_cons_succ, Act.put, List.setIfInBounds_toArray, List.set_cons_succ, List.set_cons_zero]
      refine wpAnyC_one (i := 15) rfl (by kernel_rfl) ⟨l1, l2, l3⟩ rfl ?_
      intro K hK
      go_simp
      refine hK _ _ ?_
      try simp only [List.getElem_toArray, List.getElem_cons_zero, List.getElem_cons_succ, Act.put, List.setIfInBounds_toArray, List.set_cons_succ, List.set_cons_zero]
      refine wpAnyC_done (by kernel_rfl) ⟨m1, m2, m3⟩ ?_ _
      try simp only [List.getElem_toArray, List.getElem_cons_zero, List.getElem_cons_succ, Act.put, List.setIfInBounds_toArray, List.set_cons_succ, List.set_cons_zero]
      clear k1 k2 k3 l1 l2 l3 m1 m2 m3
      have hb2 := HB1.out.box #[.int .i64 (rx : Int), .int .i64 0, .int .i64 0, .bool (decide (0 < d3 % 4)), .bool false] 54
      obtain ⟨B, hB⟩ : ∃ B, wd.heap.size = B := ⟨_, rfl⟩
      rw [hB] at hb2
      have h3 := HB1.out
      have ltT := (h3.blk 1 rfl).lt
      have ltR := (h3.blk 0 rfl).lt
      have ltg : g < wd.heap.size := h3.rowLt (i + 2) (by simpa using HI.out) (by omega)
      have a1 : ∀ o, (wd.alloc o).cell? ⟨T, 1, none⟩ = some (.int .u8 d1) := fun o => (World.cell?_alloc_past _ _ _ ltT).trans (by have := (h3.blk 1 rfl).cell 1; simpa using this)
      have a2 : ∀ o, (wd.alloc o).cell? ⟨T, 2, none⟩ = some (.int .u8 d2) := fun o => (World.cell?_alloc_past _ _ _ ltT).trans (by have := (h3.blk 1 rfl).cell 2; simpa using this)
      have a3 : ∀ o, (wd.alloc o).cell? ⟨T, 3, none⟩ = some (.int .u8 d3) := fun o => (World.cell?_alloc_past _ _ _ ltT).trans (by have := (h3.blk 1 rfl).cell 3; simpa using this)
      have cy : ∀ o, (wd.alloc o).cell? ⟨g, K2, none⟩ = some (.int .i64 (ry : Int)) := fun o => (World.cell?_alloc_past _ _ _ ltg).trans (h3.rowCell (i + 2) (by simpa using HI.out) K2 _ (nums_get _ _ _ HY.out))
      have cz : ∀ o, (wd.alloc o).cell? ⟨g, K3, none⟩ = some (.int .i64 (rz : Int)) := fun o => (World.cell?_alloc_past _ _ _ ltg).trans (h3.rowCell (i + 2) (by simpa using HI.out) K3 _ (nums_get _ _ _ HZ.out))
      have r0 : ∀ o, (wd.alloc o).cell? ⟨T + 1, 0, none⟩ = some (.int .i64 0) := fun o => (World.cell?_alloc_past _ _ _ ltR).trans (by have := (h3.blk 0 rfl).cell 0; simpa using this)
      have r1 : ∀ o, (wd.alloc o).cell? ⟨T + 1, 1, none⟩ = some (.int .i64 0) := fun o => (World.cell?_alloc_past _ _ _ ltR).trans (by have := (h3.blk 0 rfl).cell 1; simpa using this)
      have r2 : ∀ o, (wd.alloc o).cell? ⟨T + 1, 2, none⟩ = some (.int .i64 0) := fun o => (World.cell?_alloc_past _ _ _ ltR).trans (by have := (h3.blk 0 rfl).cell 2; simpa using this)
      have r3 : ∀ o, (wd.alloc o).cell? ⟨T + 1, 3, none⟩ = some (.bool false) := fun o => (World.cell?_alloc_past _ _ _ ltR).trans (by have := (h3.blk 0 rfl).cell 3; simpa using this)
      have r4 : ∀ o, (wd.alloc o).cell? ⟨T + 1, 4, none⟩ = some (.bool false) := fun o => (World.cell?_alloc_past _ _ _ ltR).trans (by have := (h3.blk 0 rfl).cell 4; simpa using this)
      have fr : ∀ o j, (wd.alloc o).frozen? ⟨T + 1, j, none⟩ = false := fun o j => ((h3.alloc o).blk 1 rfl).frozen j
      have hbx := HB1.out.box #[.int .i64 (rx : Int), .int .i64 0, .int .i64 (rz : Int), .bool (decide (0 < d3 % 4)), .bool false] 54
      rw [hB] at hbx
      have HBX := Lib.hid hbx
      clear hbx hb2 h3 ltT ltR ltg HB1
      have hs_ := ((((((HBX.out.setCell 1 rfl 0 (.int .i64 (rx : Int))).setCell 1 rfl 1 (.int .i64 0)).setCell 1 rfl 2 (.int .i64 (rz : Int))).setCell 1 rfl 3 (.bool (decide (0 < d3 % 4)))).setCell 1 rfl 4 (.bool false)))
      simp only [List.set_cons_succ, List.set_cons_zero, List.setIfInBounds_toArray] at hs_
      have HSX := Lib.hid hs_
      clear hs_
      go_wp2
      have hs_ := HSX.out
      refine bodyPost_ret (results_write rfl rfl (hs_.blk 1 rfl)) rfl ?_
      exact ⟨rfl, hs_.tail.tail.tail⟩
  · rw [h4] at ha4
    simp only [Int.mul_one] at ha4
    rcases (by omega : d3 / 8 % 4 = 0 ∨ 0 < d3 / 8 % 4) with h24 | h24
    · rw [h24] at ha24
      simp only [Int.mul_zero] at ha24
      refine ⟨rx, ry, 0, decide (0 < d3 % 4), List.mem_of_getElem? HX.out, .inr (List.mem_of_getElem? HY.out), .inl rfl, ?_⟩
      go_enter Try.func29, Try.ntmps29
      go_wp2
      obtain ⟨wd, hwd⟩ : ∃ wd, ((w.alloc (.cells #[.int .u8 d0, .int .u8 d1, .int .u8 d2, .int .u8 d3] 52)).alloc (.cells #[.int .i64 0, .int .i64 0, .int .i64 0, .bool false, .bool false] 54)).drew = wd := ⟨_, rfl⟩
      have hd := HB.out.drew
      rw [hwd] at hd
      have k1 := (hd.blk 1 rfl).cell 0
      have k2 := (hd.blk 1 rfl).cell 3
      simp only [List.getElem?_toArray, List.getElem?_cons_zero, List.getElem?_cons_succ] at k1 k2
      have k3 := hd.rowCell (i + 2) (by simpa using HI.out) K1 _ (nums_get _ _ _ HX.out)
      have hd2 := hd.box #[.int .i64 0, .int .i64 0, .int .i64 0, .bool false, .bool false] 54
      have l1 := (hd2.blk 2 rfl).cell 0
      have l2 := (hd2.blk 2 rfl).cell 3
      simp only [List.getElem?_toArray, List.getElem?_cons_zero, List.getElem?_cons_succ] at l1 l2
      have l3 := hd2.rowCell (i + 3) (by simpa using HI.out) K1 _ (nums_get _ _ _ HX.out)
      have hd3 := hd.box #[.int .i64 (rx : Int), .int .i64 0, .int .i64 0, .bool (decide (0 < d3 % 4)), .bool false] 54
      have m1 := (hd3.blk 2 rfl).cell 0
      have m2 := (hd3.blk 2 rfl).cell 3
      simp only [List.getElem?_toArray, List.getElem?_cons_zero, List.getElem?_cons_succ] at m1 m2
      have m3 := hd3.rowCell (i + 3) (by simpa using HI.out) K1 _ (nums_get _ _ _ HX.out)
      have HB1 := Lib.hid hd
      clear hd hd2 hd3
      refine calmP ?_
      refine wp_region_float (fun W => W.cell? ⟨T, 0, none⟩ = some (.int .u8 d0) ∧ W.cell? ⟨T, 3, none⟩ = some (.int .u8 d3) ∧ W.cell? ⟨g, K1, none⟩ = some (.int .i64 (rx : Int))) hro ?_
      rw [hwd]
      clear hwd
      refine wpAnyC_take (i := 0) (v := ?v29) rfl (by kernel_rfl) (by kernel_rfl) (by kernel_rfl) (fun _ _ _ h => h) (.inl ⟨?w29, ?y29⟩) ?h29
      case w29 => kernel_rfl
      case y29 =>
        intro W hf
        obtain ⟨hf1, hf2, hf3⟩ := hf
        unfold yieldsAt
        go_simp
        all_goals first | rfl | exact ⟨rfl, rfl⟩
      simp only [List.getElem_toArray, List.getElem_cons_zero, List.getElem_cons_succ, Act.put, List.setIfInBounds_toArray, List.set_cons_succ, List.set_cons_zero]
      refine wpAnyC_take (i := 1) (v := ?v30) rfl (by kernel_rfl) (by kernel_rfl) (by kernel_rfl) (fun _ _ _ h => h) (.inl ⟨?w30, ?y30⟩) ?h30
      case w30 => kernel_rfl
      case y30 =>
        intro W hf
        obtain ⟨hf1, hf2, hf3⟩ := hf
        unfold yieldsAt
        go_simp
        all_goals first | rfl | exact ⟨rfl, rfl⟩
      simp only [List.getElem_toArray, List.getElem_cons_zero, List.getElem_cons_succ, Act.put, List.setIfInBounds_toArray, List.set_cons_succ, List.set_cons_zero]
      refine wpAnyC_take (i := 2) (v := ?v31) rfl (by kernel_rfl) (by kernel_rfl) (by kernel_rfl) (fun _ _ _ h => h) (.inl ⟨?w31, ?y31⟩) ?h31
      case w31 => kernel_rfl
      case y31 =>
        intro W hf
        obtain ⟨hf1, hf2, hf3⟩ := hf
        unfold yieldsAt
        go_simp
        all_goals first | rfl | exact ⟨rfl, rfl⟩
      simp only [List.getElem_toArray, List.getElem_cons_zero, List.getElem_cons_succ, Act.put, List.setIfInBounds_toArray, List.set_cons_succ, List.set_cons_zero]
      refine wpAnyC_take (i := 3) (v := ?v32) rfl (by kernel_rfl) (by kernel_rfl) (by kernel_rfl) (fun _ _ _ h => h) (.inl ⟨?w32, ?y32⟩) ?h32
      case w32 => kernel_rfl
      case y32 =>
        intro W hf
        obtain ⟨hf1, hf2, hf3⟩ := hf
        unfold yieldsAt
        go_simp
        all_goals first | rfl | exact ⟨rfl, rfl⟩
      simp only [List.getElem_toArray, List.getElem_cons_zero, List.getElem_cons_succ, Act.put, List.setIfInBounds_toArray, List.set_cons_succ, List.set_cons_zero]
      refine wpAnyC_take (i := 4) (v := ?v33) rfl (by kernel_rfl) (by kernel_rfl) (by kernel_rfl) (fun _ _ _ h => h) (.inl ⟨?w33, ?y33⟩) ?h33
      case w33 => kernel_rfl
      case y33 =>
        intro W hf
        obtain ⟨hf1, hf2, hf3⟩ := hf
        unfold yieldsAt
        go_simp
        all_goals first | rfl | exact ⟨rfl, rfl⟩
      simp only [List.getElem_toArray, List.getElem_cons_zero, List.getElem_cons_succ, Act.put, List.setIfInBounds_toArray, List.set_cons_succ, List.set_cons_zero]
      refine wpAnyC_take (i := 5) (v := ?v34) rfl (by kernel_rfl) (by kernel_rfl) (by kernel_rfl) (fun _ _ _ h => h) (.inl ⟨?w34, ?y34⟩) ?h34
      case w34 => kernel_rfl
      case y34 =>
        intro W hf
        obtain ⟨hf1, hf2, hf3⟩ := hf
        unfold yieldsAt
        go_simp
        all_goals first | rfl | exact ⟨rfl, rfl⟩
      simp only [List.getElem_toArray, List.getElem_cons_zero, List.getElem_cons_succ, Act.put, List.setIfInBounds_toArray, List.set_cons_succ, List.set_cons_zero]
      refine wpAnyC_take (i := 6) (v := ?v35) rfl (by kernel_rfl) (by kernel_rfl) (by kernel_rfl) (fun _ _ _ h => h) (.inl ⟨?w35, ?y35⟩) ?h35
      case w35 => kernel_rfl
      case y35 =>
        intro W hf
        obtain ⟨hf1, hf2, hf3⟩ := hf
        unfold yieldsAt
        go_simp
        all_goals first | rfl | exact ⟨rfl, rfl⟩
      simp only [List.getElem_toArray, List.getElem_cons_zero, List.getElem_cons_succ, Act.put, List.setIfInBounds_toArray, List.set_cons_succ, List.set_cons_zero]
      refine wpAnyC_take (i := 7) (v := ?v36) rfl (by kernel_rfl) (by kernel_rfl) (by kernel_rfl) (fun _ _ _ h => h) (.inl ⟨?w36, ?y36⟩) ?h36
      case w36 => kernel_rfl
      case y36 =>
        intro W hf
        obtain ⟨hf1, hf2, hf3⟩ := hf
        unfold yieldsAt
        go_simp
        all_goals first | rfl | exact ⟨rfl, rfl⟩
      simp only [List.getElem_toArray, List.getElem_cons_zero, List.getElem_cons_succ, Act.put, List.setIfInBounds_toArray, List.set_cons_succ, List.set_cons_zero]
      refine wpAnyC_take (i := 8) (v := ?v37) rfl (by kernel_rfl) (by kernel_rfl) (by kernel_rfl) (fun _ _ _ h => h) (.inl ⟨?w37, ?y37⟩) ?h37
      case w37 => kernel_rfl
      case y37 =>
        intro W hf
        obtain ⟨hf1, hf2, hf3⟩ := hf
        unfold yieldsAt
        go_simp
        all_goals first | rfl | exact ⟨rfl, rfl⟩
      simp only [List.getElem_toArray, List.getElem_cons_zero, List.getElem_cons_succ, Act.put, List.setIfInBounds_toArray, List.set_cons_succ, List.set_cons_zero]
      refine wpAnyC_take (i := 9) (v := ?v38) rfl (by kernel_rfl) (by kernel_rfl) (by kernel_rfl) (fun _ _ _ h => h) (.inl ⟨?w38, ?y38⟩) ?h38
      case w38 => kernel_rfl
      case y38 =>
        intro W hf
        obtain ⟨hf1, hf2, hf3⟩ := hf
        unfold yieldsAt
        go_simp
        all_goals first | rfl | exact ⟨rfl, rfl⟩
      simp only [List.getElem_toArray, List.getElem_cons_zero, List.getElem_cons_succ, Act.put, List.setIfInBounds_toArray, List.set_cons_succ, List.set_cons_zero]
      refine wpAnyC_take (i := 10) (v := ?v39) rfl (by kernel_rfl) (by kernel_rfl) (by kernel_rfl) (fun _ _ _ h => h) (.inl ⟨?w39, ?y39⟩) ?h39
      case w39 => kernel_rfl
      case y39 =>
        intro W hf
        obtain ⟨hf1, hf2, hf3⟩ := hf
        unfold yieldsAt
        go_simp
        all_goals first | rfl | exact ⟨rfl, rfl⟩
      simp only [List.getElem_toArray, List.getElem_cons_zero, List.getElem_cons_succ, Act.put, List.setIfInBounds_toArray, List.set_cons_succ, List.set_cons_zero]
      refine wpAnyC_take (i := 11) (v := ?v40) rfl (by kernel_rfl) (by kernel_rfl) (by kernel_rfl) (fun _ _ _ h => h) (.inl ⟨?w40, ?y40⟩) ?h40
      case w40 => kernel_rfl
      case y40 =>
        intro W hf
        obtain ⟨hf1, hf2, hf3⟩ := hf
        unfold yieldsAt
        go_simp
        all_goals first | rfl | exact ⟨rfl, rfl⟩
      simp only [List.getElem_toArray, List.getElem_cons_zero, List.getElem_cons_succ, Act.put, List.setIfInBounds_toArray, List.set_cons_succ, List.set_cons_zero]
      refine wpAnyC_take (i := 12) (v := ?v41) rfl (by kernel_rfl) (by kernel_rfl) (by kernel_rfl) (fun _ _ _ h => h) (.inl ⟨?w41, ?y41⟩) ?h41
      case w41 => kernel_rfl
      case y41 =>
        intro W hf
        obtain ⟨hf1, hf2, hf3⟩ := hf
        unfold yieldsAt
        go_simp
        all_goals first | rfl | exact ⟨rfl, rfl⟩
      simp only [List.getElem_toArray, List.getElem_cons_zero, List.getElem_cons_succ, Act.put, List.setIfInBounds_toArray, List.set_cons_succ, List.set_cons_zero]
      refine wpAnyC_take (i := 13) (v := ?v42) rfl (by kernel_rfl) (by kernel_rfl) (by kernel_rfl) (fun _ _ _ h => h) (.inl ⟨?w42, ?y42⟩) ?h42
      case w42 => kernel_rfl
      case y42 =>
        intro W hf
        obtain ⟨hf1, hf2, hf3⟩ := hf
        unfold yieldsAt
        go_simp
        all_goals first | rfl | exact ⟨rfl, rfl⟩
      simp only [List.getElem_toArray, List.getElem_cons_zero, List.getElem_cons_succ, Act.put, List.setIfInBounds_toArray, List.set_cons_succ, List.set_cons_zero]
      refine wpAnyC_one (i := 14) rfl (by kernel_rfl) ⟨k1, k2, k3⟩ rfl ?_
      intro K hK
      go_simp
      refine hK _ _ ?_
      try simp only [List.getElem_toArray, List.getElem_cons_zero, List.getElem_cons_succ, Act.put, List.setIfInBounds_toArray, List.set_cons_succ, List.set_cons_zero]
      refine wpAnyC_one (i := 15) rfl (by kernel_rfl) ⟨l1, l2, l3⟩ rfl ?_
      intro K hK
      go_simp
      refine hK _ _ ?_
      try simp only [List.getElem_toArray, List.getElem_cons_zero, List.getElem_cons_succ, Act.put, List.setIfInBounds_toArray, List.set_cons_succ, List.set_cons_zero]
      refine wpAnyC_done (by kernel_rfl) ⟨m1, m2, m3⟩ ?_ _
      try simp only [List.getElem_toArray, List.getElem_cons_zero, List.getElem_cons_succ, Act.put, List.setIfInBounds_toArray, List.set_cons_succ, List.set_cons_zero]
      clear k1 k2 k3 l1 l2 l3 m1 m2 m3
      have hb2 := HB1.out.box #[.int .i64 (rx : Int), .int .i64 0, .int .i64 0, .bool (decide (0 < d3 % 4)), .bool false] 54
      obtain ⟨B, hB⟩ : ∃ B, wd.heap.size = B := ⟨_, rfl⟩
      rw [hB] at hb2
      have h3 := HB1.out
      have ltT := (h3.blk 1 rfl).lt
      have ltR := (h3.blk 0 rfl).lt
      have ltg : g < wd.heap.size := h3.rowLt (i + 2) (by simpa using HI.out) (by omega)
      have a1 : ∀ o, (wd.alloc o).cell? ⟨T, 1, none⟩ = some (.int .u8 d1) := fun o => (World.cell?_alloc_past _ _ _ ltT).trans (by have := (h3.blk 1 rfl).cell 1; simpa using this)
      have a2 : ∀ o, (wd.alloc o).cell? ⟨T, 2, none⟩ = some (.int .u8 d2) := fun o => (World.cell?_alloc_past _ _ _ ltT).trans (by have := (h3.blk 1 rfl).cell 2; simpa using this)
      have a3 : ∀ o, (wd.alloc o).cell? ⟨T, 3, none⟩ = some (.int .u8 d3) := fun o => (World.cell?_alloc_past _ _ _ ltT).trans (by have := (h3.blk 1 rfl).cell 3; simpa using this)
      have cy : ∀ o, (wd.alloc o).cell? ⟨g, K2, none⟩ = some (.int .i64 (ry : Int)) := fun o => (World.cell?_alloc_past _ _ _ ltg).trans (h3.rowCell (i + 2) (by simpa using HI.out) K2 _ (nums_get _ _ _ HY.out))
      have cz : ∀ o, (wd.alloc o).cell? ⟨g, K3, none⟩ = some (.int .i64 (rz : Int)) := fun o => (World.cell?_alloc_past _ _ _ ltg).trans (h3.rowCell (i + 2) (by simpa using HI.out) K3 _ (nums_get _ _ _ HZ.out))
      have r0 : ∀ o, (wd.alloc o).cell? ⟨T + 1, 0, none⟩ = some (.int .i64 0) := fun o => (World.cell?_alloc_past _ _ _ ltR).trans (by have := (h3.blk 0 rfl).cell 0; simpa using this)
      have r1 : ∀ o, (wd.alloc o).cell? ⟨T + 1, 1, none⟩ = some (.int .i64 0) := fun o => (World.cell?_alloc_past _ _ _ ltR).trans (by have := (h3.blk 0 rfl).cell 1; simpa using this)
      have r2 : ∀ o, (wd.alloc o).cell? ⟨T + 1, 2, none⟩ = some (.int .i64 0) := fun o => (World.cell?_alloc_past _ _ _ ltR).trans (by have := (h3.blk 0 rfl).cell 2; simpa using this)
      have r3 : ∀ o, (wd.alloc o).cell? ⟨T + 1, 3, none⟩ = some (.bool false) := fun o => (World.cell?_alloc_past _ _ _ ltR).trans (by have := (h3.blk 0 rfl).cell 3; simpa using this)
      have r4 : ∀ o, (wd.alloc o).cell? ⟨T + 1, 4, none⟩ = some (.bool false) := fun o => (World.cell?_alloc_past _ _ _ ltR).trans (by have := (h3.blk 0 rfl).cell 4; simpa using this)
      have fr : ∀ o j, (wd.alloc o).frozen? ⟨T + 1, j, none⟩ = false := fun o j => ((h3.alloc o).blk 1 rfl).frozen j
      have hbx := HB1.out.box #[.int .i64 (rx : Int), .int .i64 (ry : Int), .int .i64 0, .bool (decide (0 < d3 % 4)), .bool false] 54
      rw [hB] at hbx
      have HBX := Lib.hid hbx
      clear hbx hb2 h3 ltT ltR ltg HB1
      have hs_ := ((((((HBX.out.setCell 1 rfl 0 (.int .i64 (rx : Int))).setCell 1 rfl 1 (.int .i64 (ry : Int))).setCell 1 rfl 2 (.int .i64 0)).setCell 1 rfl 3 (.bool (decide (0 < d3 % 4)))).setCell 1 rfl 4 (.bool false)))
      simp only [List.set_cons_succ, List.set_cons_zero, List.setIfInBounds_toArray] at hs_
      have HSX := Lib.hid hs_
      clear hs_
      go_wp2
      have hs_ := HSX.out
      refine bodyPost_ret (results_write rfl rfl (hs_.blk 1 rfl)) rfl ?_
      exact ⟨rfl, hs_.tail.tail.tail⟩
    · have hp24 : 0 < 8 * (d3 / 8 % 4) := by omega
      refine ⟨rx, ry, rz, decide (0 < d3 % 4), List.mem_of_getElem? HX.out, .inr (List.mem_of_getElem? HY.out), .inr (List.mem_of_getElem? HZ.out), ?_⟩
      go_enter Try.func29, Try.ntmps29
      go_wp2
      obtain ⟨wd, hwd⟩ : ∃ wd, ((w.alloc (.cells #[.int .u8 d0, .int .u8 d1, .int .u8 d2, .int .u8 d3] 52)).alloc (.cells #[.int .i64 0, .int .i64 0, .int .i64 0, .bool false, .bool false] 54)).drew = wd := ⟨_, rfl⟩
      have hd := HB.out.drew
      rw [hwd] at hd
      have k1 := (hd.blk 1 rfl).cell 0
      have k2 := (hd.blk 1 rfl).cell 3
      simp only [List.getElem?_toArray, List.getElem?_cons_zero, List.getElem?_cons_succ] at k1 k2
      have k3 := hd.rowCell (i + 2) (by simpa using HI.out) K1 _ (nums_get _ _ _ HX.out)
      have hd2 := hd.box #[.int .i64 0, .int .i64 0, .int .i64 0, .bool false, .bool false] 54
      have l1 := (hd2.blk 2 rfl).cell 0
      have l2 := (hd2.blk 2 rfl).cell 3
      simp only [List.getElem?_toArray, List.getElem?_cons_zero, List.getElem?_cons_succ] at l1 l2
      have l3 := hd2.rowCell (i + 3) (by simpa using HI.out) K1 _ (nums_get _ _ _ HX.out)
      have hd3 := hd.box #[.int .i64 (rx : Int), .int .i64 0, .int .i64 0, .bool (decide (0 < d3 % 4)), .bool false] 54
      have m1 := (hd3.blk 2 rfl).cell 0
      have m2 := (hd3.blk 2 rfl).cell 3
      simp only [List.getElem?_toArray, List.getElem?_cons_zero, List.getElem?_cons_succ] at m1 m2
      have m3 := hd3.rowCell (i + 3) (by simpa using HI.out) K1 _ (nums_get _ _ _ HX.out)
      have HB1 := Lib.hid hd
      clear hd hd2 hd3
      refine calmP ?_
      refine wp_region_float (fun W => W.cell? ⟨T, 0, none⟩ = some (.int .u8 d0) ∧ W.cell? ⟨T, 3, none⟩ = some (.int .u8 d3) ∧ W.cell? ⟨g, K1, none⟩ = some (.int .i64 (rx : Int))) hro ?_
      rw [hwd]
      clear hwd
      refine wpAnyC_take (i := 0) (v := ?v43) rfl (by kernel_rfl) (by kernel_rfl) (by kernel_rfl) (fun _ _ _ h => h) (.inl ⟨?w43, ?y43⟩) ?h43
      case w43 => kernel_rfl
      case y43 =>
        intro W hf
        obtain ⟨hf1, hf2, hf3⟩ := hf
        unfold yieldsAt
        go_simp
        all_goals first | rfl | exact ⟨rfl, rfl⟩
      simp only [List.getElem_toArray, List.getElem_cons_zero, List.getElem_cons_succ, Act.put, List.setIfInBounds_toArray, List.set_cons_succ, List.set_cons_zero]
      refine wpAnyC_take (i := 1) (v := ?v44) rfl (by kernel_rfl) (by kernel_rfl) (by kernel_rfl) (fun _ _ _ h => h) (.inl ⟨?w44, ?y44⟩) ?h44
      case w44 => kernel_rfl
      case y44 =>
        intro W hf
        obtain ⟨hf1, hf2, hf3⟩ := hf
        unfold yieldsAt
        go_simp
        all_goals first | rfl | exact ⟨rfl, rfl⟩
      simp only [List.getElem_toArray, List.getElem_cons_zero, List.getElem_cons_succ, Act.put, List.setIfInBounds_toArray, List.set_cons_succ, List.set_cons_zero]
      refine wpAnyC_take (i := 2) (v := ?v45) rfl (by kernel_rfl) (by kernel_rfl) (by kernel_rfl) (fun _ _ _ h => h) (.inl ⟨?w45, ?y45⟩) ?h45
      case w45 => kernel_rfl
      case y45 =>
        intro W hf
        obtain ⟨hf1, hf2, hf3⟩ := hf
        unfold yieldsAt
        go_simp
        all_goals first | rfl | exact ⟨rfl, rfl⟩
      simp only [List.getElem_toArray, List.getElem_cons_zero, List.getElem_cons_succ, Act.put, List.setIfInBounds_toArray, List.set_cons_succ, List.set_cons_zero]
      refine wpAnyC_take (i := 3) (v := ?v46) rfl (by kernel_rfl) (by kernel_rfl) (by kernel_rfl) (fun _ _ _ h => h) (.inl ⟨?w46, ?y46⟩) ?h46
      case w46 => kernel_rfl
      case y46 =>
        intro W hf
        obtain ⟨hf1, hf2, hf3⟩ := hf
        unfold yieldsAt
        go_simp
        all_goals first | rfl | exact ⟨rfl, rfl⟩
      simp only [List.getElem_toArray, List.getElem_cons_zero, List.getElem_cons_succ, Act.put, List.setIfInBounds_toArray, List.set_cons_succ, List.set_cons_zero]
      refine wpAnyC_take (i := 4) (v := ?v47) rfl (by kernel_rfl) (by kernel_rfl) (by kernel_rfl) (fun _ _ _ h => h) (.inl ⟨?w47, ?y47⟩) ?h47
      case w47 => kernel_rfl
      case y47 =>
        intro W hf
        obtain ⟨hf1, hf2, hf3⟩ := hf
        unfold yieldsAt
        go_simp
        all_goals first | rfl | exact ⟨rfl, rfl⟩
      simp only [List.getElem_toArray, List.getElem_cons_zero, List.getElem_cons_succ, Act.put, List.setIfInBounds_toArray, List.set_cons_succ, List.set_cons_zero]
      refine wpAnyC_take (i := 5) (v := ?v48) rfl (by kernel_rfl) (by kernel_rfl) (by kernel_rfl) (fun _ _ _ h => h) (.inl ⟨?w48, ?y48⟩) ?h48
      case w48 => kernel_rfl
      case y48 =>
        intro W hf
        obtain ⟨hf1, hf2, hf3⟩ := hf
        unfold yieldsAt
        go_simp
        all_goals first | rfl | exact ⟨rfl, rfl⟩
      simp only [List.getElem_toArray, List.getElem_cons_zero, List.getElem_cons_succ, Act.put, List.setIfInBounds_toArray, List.set_cons_succ, List.set_cons_zero]
      refine wpAnyC_take (i := 6) (v := ?v49) rfl (by kernel_rfl) (by kernel_rfl) (by kernel_rfl) (fun _ _ _ h => h) (.inl ⟨?w49, ?y49⟩) ?h49
      case w49 => kernel_rfl
      case y49 =>
        intro W hf
        obtain ⟨hf1, hf2, hf3⟩ := hf
        unfold yieldsAt
        go_simp
        all_goals first | rfl | exact ⟨rfl, rfl⟩
      simp only [List.getElem_toArray, List.getElem_cons_zero, List.getElem_cons_succ, Act.put, List.setIfInBounds_toArray, List.set_cons_succ, List.set_cons_zero]
      refine wpAnyC_take (i := 7) (v := ?v50) rfl (by kernel_rfl) (by kernel_rfl) (by kernel_rfl) (fun _ _ _ h => h) (.inl ⟨?w50, ?y50⟩) ?h50
      case w50 => kernel_rfl
      case y50 =>
        intro W hf
        obtain ⟨hf1, hf2, hf3⟩ := hf
        unfold yieldsAt
        go_simp
        all_goals first | rfl | exact ⟨rfl, rfl⟩
      simp only [List.getElem_toArray, List.getElem_cons_zero, List.getElem_cons_succ, Act.put, List.setIfInBounds_toArray, List.set_cons_succ, List.set_cons_zero]
      refine wpAnyC_take (i := 8) (v := ?v51) rfl (by kernel_rfl) (by kernel_rfl) (by kernel_rfl) (fun _ _ _ h => h) (.inl ⟨?w51, ?y51⟩) ?h51
      case w51 => kernel_rfl
      case y51 =>
        intro W hf
        obtain ⟨hf1, hf2, hf3⟩ := hf
        unfold yieldsAt
        go_simp
        all_goals first | rfl | exact ⟨rfl, rfl⟩
      simp only [List.getElem_toArray, List.getElem_cons_zero, List.getElem_cons_succ, Act.put, List.setIfInBounds_toArray, List.set_cons_succ, List.set_cons_zero]
      refine wpAnyC_take (i := 9) (v := ?v52) rfl (by kernel_rfl) (by kernel_rfl) (by kernel_rfl) (fun _ _ _ h => h) (.inl ⟨?w52, ?y52⟩) ?h52
      case w52 => kernel_rfl
      case y52 =>
        intro W hf
        obtain ⟨hf1, hf2, hf3⟩ := hf
        unfold yieldsAt
        go_simp
        all_goals first | rfl | exact ⟨rfl, rfl⟩
      simp only [List.getElem_toArray, List.getElem_cons_zero, List.getElem_cons_succ, Act.put, List.setIfInBounds_toArray, List.set_cons_succ, List.set_cons_zero]
      refine wpAnyC_take (i := 10) (v := ?v53) rfl (by kernel_rfl) (by kernel_rfl) (by kernel_rfl) (fun _ _ _ h => h) (.inl ⟨?w53, ?y53⟩) ?h53
      case w53 => kernel_rfl
      case y53 =>
        intro W hf
        obtain ⟨hf1, hf2, hf3⟩ := hf
        unfold yieldsAt
        go_simp
        all_goals first | rfl | exact ⟨rfl, rfl⟩
      simp only [List.getElem_toArray, List.getElem_cons_zero, List.getElem_cons_succ, Act.put, List.setIfInBounds_toArray, List.set_cons_succ, List.set_cons_zero]
      refine wpAnyC_take (i := 11) (v := ?v54) rfl (by kernel_rfl) (by kernel_rfl) (by kernel_rfl) (fun _ _ _ h => h) (.inl ⟨?w54, ?y54⟩) ?h54
      case w54 => kernel_rfl
      case y54 =>
        intro W hf
        obtain ⟨hf1, hf2, hf3⟩ := hf
        unfold yieldsAt
        go_simp
        all_goals first | rfl | exact ⟨rfl, rfl⟩
      simp only [List.getElem_toArray, List.getElem_cons_zero, List.getElem_cons_succ, Act.put, List.setIfInBounds_toArray, List.set_cons_succ, List.set_cons_zero]
      refine wpAnyC_take (i := 12) (v := ?v55) rfl (by kernel_rfl) (by kernel_rfl) (by kernel_rfl) (fun _ _ _ h => h) (.inl ⟨?w55, ?y55⟩) ?h55
      case w55 => kernel_rfl
      case y55 =>
        intro W hf
        obtain ⟨hf1, hf2, hf3⟩ := hf
        unfold yieldsAt
        go_simp
        all_goals first | rfl | exact ⟨rfl, rfl⟩
      simp only [List.getElem_toArray, List.getElem_cons_zero, List.getElem_cons_succ, Act.put, List.setIfInBounds_toArray, List.set_cons_succ, List.set_cons_zero]
      refine wpAnyC_take (i := 13) (v := ?v56) rfl (by kernel_rfl) (by kernel_rfl) (by kernel_rfl) (fun _ _ _ h => h) (.inl ⟨?w56, ?y56⟩) ?h56
      case w56 => kernel_rfl
      case y56 =>
        intro W hf
        obtain ⟨hf1, hf2, hf3⟩ := hf
        unfold yieldsAt
        go_simp
        all_goals first | rfl | exact ⟨rfl, rfl⟩
      simp only [List.getElem_toArray, List.getElem_cons_zero, List.getElem_cons_succ, Act.put, List.setIfInBounds_toArray, List.set_cons_succ, List.set_cons_zero]
      refine wpAnyC_one (i := 14) rfl (by kernel_rfl) ⟨k1, k2, k3⟩ rfl ?_
      intro K hK
      go_simp
      refine hK _ _ ?_
      try simp only [List.getElem_toArray, List.getElem_cons_zero, List.getElem_cons_succ, Act.put, List.setIfInBounds_toArray, List.set_cons_succ, List.set_cons_zero]
      refine wpAnyC_one (i := 15) rfl (by kernel_rfl) ⟨l1, l2, l3⟩ rfl ?_
      intro K hK
      go_simp
      refine hK _ _ ?_
      try simp only [List.getElem_toArray, List.getElem_cons_zero, List.getElem_cons_succ, Act.put, List.setIfInBounds_toArray, List.set_cons_succ, List.set_cons_zero]
      refine wpAnyC_done (by kernel_rfl) ⟨m1, m2, m3⟩ ?_ _
      try simp only [List.getElem_toArray, List.getElem_cons_zero, List.getElem_cons_succ, Act.put, List.setIfInBounds_toArray, List.set_cons_succ, List.set_cons_zero]
      clear k1 k2 k3 l1 l2 l3 m1 m2 m3
      have hb2 := HB1.out.box #[.int .i64 (rx : Int), .int .i64 0, .int .i64 0, .bool (decide (0 < d3 % 4)), .bool false] 54
      obtain ⟨B, hB⟩ : ∃ B, wd.heap.size = B := ⟨_, rfl⟩
      rw [hB] at hb2
      have h3 := HB1.out
      have ltT := (h3.blk 1 rfl).lt
      have ltR := (h3.blk 0 rfl).lt
      have ltg : g < wd.heap.size := h3.rowLt (i + 2) (by simpa using HI.out) (by omega)
      have a1 : ∀ o, (wd.alloc o).cell? ⟨T, 1, none⟩ = some (.int .u8 d1) := fun o => (World.cell?_alloc_past _ _ _ ltT).trans (by have := (h3.blk 1 rfl).cell 1; simpa using this)
      have a2 : ∀ o, (wd.alloc o).cell? ⟨T, 2, none⟩ = some (.int .u8 d2) := fun o => (World.cell?_alloc_past _ _ _ ltT).trans (by have := (h3.blk 1 rfl).cell 2; simpa using this)
      have a3 : ∀ o, (wd.alloc o).cell? ⟨T, 3, none⟩ = some (.int .u8 d3) := fun o => (World.cell?_alloc_past _ _ _ ltT).trans (by have := (h3.blk 1 rfl).cell 3; simpa using this)
      have cy : ∀ o, (wd.alloc o).cell? ⟨g, K2, none⟩ = some (.int .i64 (ry : Int)) := fun o => (World.cell?_alloc_past _ _ _ ltg).trans (h3.rowCell (i + 2) (by simpa using HI.out) K2 _ (nums_get _ _ _ HY.out))
      have cz : ∀ o, (wd.alloc o).cell? ⟨g, K3, none⟩ = some (.int .i64 (rz : Int)) := fun o => (World.cell?_alloc_past _ _ _ ltg).trans (h3.rowCell (i + 2) (by simpa using HI.out) K3 _ (nums_get _ _ _ HZ.out))
      have r0 : ∀ o, (wd.alloc o).cell? ⟨T + 1, 0, none⟩ = some (.int .i64 0) := fun o => (World.cell?_alloc_past _ _ _ ltR).trans (by have := (h3.blk 0 rfl).cell 0; simpa using this)
      have r1 : ∀ o, (wd.alloc o).cell? ⟨T + 1, 1, none⟩ = some (.int .i64 0) := fun o => (World.cell?_alloc_past _ _ _ ltR).trans (by have := (h3.blk 0 rfl).cell 1; simpa using this)
      have r2 : ∀ o, (wd.alloc o).cell? ⟨T + 1, 2, none⟩ = some (.int .i64 0) := fun o => (World.cell?_alloc_past _ _ _ ltR).trans (by have := (h3.blk 0 rfl).cell 2; simpa using this)
      have r3 : ∀ o, (wd.alloc o).cell? ⟨T + 1, 3, none⟩ = some (.bool false) := fun o => (World.cell?_alloc_past _ _ _ ltR).trans (by have := (h3.blk 0 rfl).cell 3; simpa using this)
      have r4 : ∀ o, (wd.alloc o).cell? ⟨T + 1, 4, none⟩ = some (.bool false) := fun o => (World.cell?_alloc_past _ _ _ ltR).trans (by have := (h3.blk 0 rfl).cell 4; simpa using this)
      have fr : ∀ o j, (wd.alloc o).frozen? ⟨T + 1, j, none⟩ = false := fun o j => ((h3.alloc o).blk 1 rfl).frozen j
      have hbx := HB1.out.box #[.int .i64 (rx : Int), .int .i64 (ry : Int), .int .i64 (rz : Int), .bool (decide (0 < d3 % 4)), .bool false] 54
      rw [hB] at hbx
      have HBX := Lib.hid hbx
      clear hbx hb2 h3 ltT ltR ltg HB1
      have hs_ := ((((((HBX.out.setCell 1 rfl 0 (.int .i64 (rx : Int))).setCell 1 rfl 1 (.int .i64 (ry : Int))).setCell 1 rfl 2 (.int .i64 (rz : Int))).setCell 1 rfl 3 (.bool (decide (0 < d3 % 4)))).setCell 1 rfl 4 (.bool false)))
      simp only [List.set_cons_succ, List.set_cons_zero, List.setIfInBounds_toArray] at hs_
      have HSX := Lib.hid hs_
      clear hs_
      go_wp2
      have hs_ := HSX.out
      refine bodyPost_ret (results_write rfl rfl (hs_.blk 1 rfl)) rfl ?_
      exact ⟨rfl, hs_.tail.tail.tail⟩
theorem Write15 (S : Sep w0 w L) (i : Nat) (hi : L[i]? = some (rowR 35 1 (.slice (some ⟨g, 0, none⟩) Rn capl) Rn (nums rs))) (hRn : rs.length = Rn) (hkp : 0 < Rn) (hl40 : Rn ≤ 40) (d0 d1 d2 d3 : Int) (hw0 : 0 ≤ d0 ∧ d0 ≤ 255) (hw1 : 0 ≤ d1 ∧ d1 ≤ 255) (hw2 : 0 ≤ d2 ∧ d2 ≤ 255) (hw3 : 0 ≤ d3 ∧ d3 ≤ 255) :
    Calls Try.prog 29 #[.slice (some ⟨g, 0, none⟩) Rn capl, .agg #[.int .u8 d0, .int .u8 d1, .int .u8 d2, .int .u8 d3]] w fun e w' => ∃ (src old new : Nat) (black : Bool), e = .returned (.agg #[.int .i64 (src : Int), .int .i64 (old : Int), .int .i64 (new : Int), .bool black, .bool false]) ∧ src ∈ rs ∧ (old = 0 ∨ old ∈ rs) ∧ (new = 0 ∨ new ∈ rs) ∧ Sep w0 w' L := by
  obtain ⟨src, old, new, black, h1, h2, h3, hc⟩ := Write15x S i hi hRn hkp hl40 d0 d1 d2 d3 hw0 hw1 hw2 hw3
  refine hc.mono ?_
  rintro e w' ⟨rfl, hs⟩
  exact ⟨src, old, new, black, rfl, h1, h2, h3, hs⟩
end
end Go.Proofs.Ytbcabjpafeocgaa

/-
  fit of layer 15. Conditions: as the theorem says.
-/
namespace Go.Proofs.Ytbcabjpafeocgaa
set_option linter.unusedVariables false
set_option linter.unusedSimpArgs false
open Go.RowKit Go.Shelf

theorem v1_is {x : Nat} (hx : x ≠ 0) : (Vy.new 1).post true 0 x = ⟨updC (fun _ => 0) x 1, [x], max 1 0, false⟩ := by
  have h1 : (Vy.new 1).up x = ⟨updC (fun _ => 0) x 1, [x], max 1 0, false⟩ := by
    unfold Vy.up
    rw [if_neg hx, if_pos (by simp only [Vy.new, List.length_nil]; omega)]
    rfl
  unfold Vy.post
  rw [if_pos rfl, h1]
  unfold Vy.down
  rw [if_neg (fun h => h.1 rfl)]
theorem twos15 (w : World) (m : Nat) (cs : List Value) (hc : cs = List.replicate m (.int .u8 2)) : ArgI (w.alloc (.cells cs.toArray 5)) (some ⟨w.heap.size, 0, none⟩) m [.u8] (fun _ _ => 2) := by
  intro i hi
  refine ⟨w.heap.size, 0, rfl, by simp, fun j q hq => ?_⟩
  match j, hq with
  | 0, hq =>
    simp at hq
    subst hq
    refine ⟨?_, show (Lit.int .u8 2).wf = true by decide⟩
    have h := (Blk.new w 5 cs.toArray).cell i
    show (w.alloc (.cells cs.toArray 5)).cell? ⟨w.heap.size, 0 + i * 1 + 0, none⟩ = some (.int .u8 2)
    rw [show 0 + i * 1 + 0 = i by omega, h, hc]
    simp [hi]
theorem argI_none15 (w : World) (qs : List IntKind) : ArgI w none 0 qs (fun _ _ => 0) := fun i hi => absurd hi (by omega)
set_option maxRecDepth 100000 in
set_option maxHeartbeats 4000000 in
theorem fit15 (w : World) : Calls Try.prog 27 #[] w fun e w' => e = .returned (.bool true) ∧ Chg [] w w' := by
  obtain ⟨W, hW⟩ : ∃ W, w.alloc (.cells #[.int .u8 2, .int .u8 2] 5) = W := ⟨_, rfl⟩
  have hz := twos15 w 2 [.int .u8 2, .int .u8 2] rfl
  simp only [List.toArray] at hz
  have hch := (Chg.refl [] w).alloc (.cells #[.int .u8 2, .int .u8 2] 5)
  rw [hW] at hch
  have hz' : ArgI W (some ⟨w.heap.size, 0, none⟩) 2 [.u8] (fun _ _ => 2) := by rw [← hW]; exact hz
  have HZ := Lib.hid hz'
  have HCH := Lib.hid hch
  have HMD := Lib.hid (Made11 (some ⟨w.heap.size, 0, none⟩) 2 2 (fun _ _ => 2) none 0 0 (fun _ _ => 0) hz' (argI_none15 W _) (by omega) (by omega) (Sep.start W))
  have hro : Try.prog.follows .mixedOrders = true := by kernel_rfl
  clear hz hz' hch
  go_enter Try.func27, Try.ntmps27
  go_wp2_with (first
    | (go_at_call 14; refine (HMD.out).mono ?_; rintro e w3 ⟨a, b, v, A, rs, fs, rfl, hgr, hlen, hs⟩; obtain ⟨x, y, rfl⟩ : ∃ x y, rs = [x, y] := (by match rs, hlen with | [x, y], _ => exact ⟨x, y, rfl⟩); have HGR := Lib.hid hgr; obtain ⟨g, capl, hv, _, _⟩ := hs.rowSome 1 rfl (by simp); rw [hv] at hs ⊢; have HS3 := Lib.hid hs; clear hs hgr hlen hv HMD)
    | (go_at_call 15; refine (KNew HS3.out 0 rfl HGR.out.size (by omega) 4 (by omega)).mono ?_; rintro e w4 ⟨m, rfl, hs⟩; have HC := Lib.hid (VNew hs 0 1 rfl rfl HGR.out.size (by omega) 1 (by omega)); clear hs HS3)
    | (go_at_call 28; refine (HC.out).mono ?_; rintro e w5 ⟨bb, rfl, hs⟩; have HS5 := Lib.hid (show Sep W w5 (vybR bb m 2049 (Vy.new 1) :: markR m a 2049 (Col.white) :: arenaR a A :: rowR 35 1 (.slice (some ⟨g, 0, none⟩) 2 capl) 2 (nums [x, y]) :: adjR Try.prog 35 35 b (ptsOf fs) :: []) from hs); clear hs HC))
  have HXL := Lib.hid (HGR.out.lt (x := x) (by simp))
  have HYL := Lib.hid (HGR.out.lt (x := y) (by simp))
  have HNE := Lib.hid (show y ≠ x from fun e => by have := HGR.out.nodup; rw [e] at this; simp at this)
  obtain ⟨wd1, hwd1⟩ : ∃ wd, (w5).drew = wd := ⟨_, rfl⟩
  have hd := HS5.out.drew
  rw [hwd1] at hd
  have x0 := hd.rowCell 3 rfl 0 _ (nums_get [x, y] 0 x rfl); have x1 := hd.rowCell 3 rfl 1 _ (nums_get [x, y] 1 y rfl)
  have HS6 := Lib.hid hd
  clear hd HS5
  refine wp_region_still_tail 8 (by kernel_rfl) (by kernel_rfl) ?_
  change wpStill _ _ (World.drew _) (fun a' => wpList _ _ _ _ a' (World.drew _)) _ _
  rw [hwd1]
  clear hwd1
  simp only [List.take_succ_cons, List.take_zero, List.drop_succ_cons, List.drop_zero]
  repeat still_step
  refine wpStill_nil ?_
  have HCP := Lib.hid (VPostNew HS6.out 0 rfl (x : Int) y false false (by omega) HYL.out.2)
  clear x0 x1
  go_wp2_with (go_at_call 30; refine (HCP.out).mono ?_; rintro e w6 ⟨rfl, hs⟩; have HS7 := Lib.hid (show Sep W w6 (vybR bb m 2049 (Vy.new 1) :: markR m a 2049 (Col.white) :: arenaR a A :: rowR 35 1 (.slice (some ⟨g, 0, none⟩) 2 capl) 2 (nums [x, y]) :: adjR Try.prog 35 35 b (ptsOf fs) :: []) from hs); clear hs HCP HS6)
  obtain ⟨wd2, hwd2⟩ : ∃ wd, (w6).drew = wd := ⟨_, rfl⟩
  have hd := HS7.out.drew
  rw [hwd2] at hd
  have x0 := hd.rowCell 3 rfl 0 _ (nums_get [x, y] 0 x rfl); have x1 := hd.rowCell 3 rfl 1 _ (nums_get [x, y] 1 y rfl)
  have HS8 := Lib.hid hd
  clear hd HS7
  refine wp_region_still_tail 8 (by kernel_rfl) (by kernel_rfl) ?_
  change wpStill _ _ (World.drew _) (fun a' => wpList _ _ _ _ a' (World.drew _)) _ _
  rw [hwd2]
  clear hwd2
  simp only [List.take_succ_cons, List.take_zero, List.drop_succ_cons, List.drop_zero]
  repeat still_step
  refine wpStill_nil ?_
  have HCQ := Lib.hid (VPostNew HS8.out 0 rfl (x : Int) x true false (by omega) HXL.out.2)
  clear x0 x1
  go_wp2_with (first
    | (go_at_call 30; refine (HCQ.out).mono ?_; rintro e w7 ⟨rfl, hs⟩; have HCR := Lib.hid (PRemark (show Sep W w7 (vybR bb m 2049 ((Vy.new 1).post true 0 x) :: markR m a 2049 (Col.white) :: arenaR a A :: rowR 35 1 (.slice (some ⟨g, 0, none⟩) 2 capl) 2 (nums [x, y]) :: adjR Try.prog 35 35 b (ptsOf fs) :: []) from hs) HGR.out.size HGR.out.heap.wf); clear hs HCQ HS8)
    | (go_at_call 31; refine (HCR.out).mono ?_; rintro e w8 ⟨rfl, hs⟩; have hok := VOk hs 0 rfl; have HOK := Lib.hid hok; have h2 := (show Sep W w8 (vybR bb m 2049 ((Vy.new 1).post true 0 x) :: markR m a 2049 (Col.white.shades (((Vy.new 1).post true 0 x).what (elems 2049 A.tk))) :: arenaR a A :: rowR 35 1 (.slice (some ⟨g, 0, none⟩) 2 capl) 2 (nums [x, y]) :: adjR Try.prog 35 35 b (ptsOf fs) :: []) from hs); have x0 := h2.rowCell 3 rfl 0 _ (nums_get [x, y] 0 x rfl); have x1 := h2.rowCell 3 rfl 1 _ (nums_get [x, y] 1 y rfl); have HS9 := Lib.hid h2; have HM1 := Lib.hid (KMarked h2 1 rfl x HXL.out.2); clear hs h2 hok HCR)
    | (go_at_call 67; refine (VRescans _ bb).mono ?_; rintro e w9 ⟨rfl, rfl⟩)
    | (go_at_call 32; refine (HM1.out).mono ?_; rw [remark_mz HGR.out HOK.out (show x ∈ [x, y] by simp), show ((Vy.new 1).post true 0 x).cnt x = 1 by rw [v1_is (Nat.pos_iff_ne_zero.1 HXL.out.1)]; simp [updC]]; rintro e w10 ⟨rfl, hs⟩; have x0 := hs.rowCell 3 rfl 0 _ (nums_get [x, y] 0 x rfl); have x1 := hs.rowCell 3 rfl 1 _ (nums_get [x, y] 1 y rfl); have HM2 := Lib.hid (KMarked hs 1 rfl y HYL.out.2); clear hs HM1 HS9)
    | (go_at_call 32; refine (HM2.out).mono ?_; rw [remark_mz HGR.out HOK.out (show y ∈ [x, y] by simp), show ((Vy.new 1).post true 0 x).cnt y = 0 by rw [v1_is (Nat.pos_iff_ne_zero.1 HXL.out.1)]; simp [updC, HNE.out]]; rintro e w11 ⟨rfl, hs⟩; have x0 := hs.rowCell 3 rfl 0 _ (nums_get [x, y] 0 x rfl); have x1 := hs.rowCell 3 rfl 1 _ (nums_get [x, y] 1 y rfl); have HM3 := Lib.hid (VCount hs 0 rfl x HXL.out.2); have HS10 := Lib.hid hs; have HM4 := Lib.hid (VOver hs 0 rfl); clear hs HM2)
    | (go_at_call 33; refine (HM3.out).mono ?_; rw [show ((Vy.new 1).post true 0 x).cnt x = 1 by rw [v1_is (Nat.pos_iff_ne_zero.1 HXL.out.1)]; simp [updC]]; rintro e w12 ⟨rfl, rfl⟩; clear HM3)
    | (go_at_call 34; refine (HM4.out).mono ?_; rw [show ((Vy.new 1).post true 0 x).over = false by rw [v1_is (Nat.pos_iff_ne_zero.1 HXL.out.1)]]; rintro e w13 ⟨rfl, rfl⟩; clear HM4))
  go_ret
  exact ⟨rfl, HCH.out.trans HS10.out.chg (by simp)⟩
end Go.Proofs.Ytbcabjpafeocgaa
