/-
  Parts of the proof, joined: Write15, Fit15, VybWhiteW. Conditions: as each part says.
-/
import Derived.Test.YtbcabjpafeocgaaL5
import Derived.Test.YtbcabjpafeocgaaL6
import Derived.Test.YtbcabjpafeocgaaL4
import Derived.Test.YtbcabjpafeocgaaL1

/-
  write of layer 15's statements. Conditions: as the theorem says.
-/
namespace Go.Proofs.Ytbcabjpafeocgaa
set_option linter.unusedVariables false
set_option linter.unusedSimpArgs false
open Go.RowKit Go.Shelf

theorem results_write {fn : Func} {s : Tmp} (h : fn.results = #[.cell s 54]) {tmps : Array Value} {w : World} {b : Nat} {v0 v1 v2 v3 v4 : Value} (hp : tmps.getD s undef = .pointer (some ⟨b, 0, none⟩)) (hb : Blk w b 54 #[v0, v1, v2, v3, v4]) :
    (results fn tmps).run Try.prog w = .ok (.agg #[v0, v1, v2, v3, v4]) w := by
  have hp' : tmps[s]?.getD undef = .pointer (some ⟨b, 0, none⟩) := by simpa using hp
  have c0 := hb.cell 0
  have c1 := hb.cell 1
  have c2 := hb.cell 2
  have c3 := hb.cell 3
  have c4 := hb.cell 4
  simp only [List.getElem?_toArray, List.getElem?_cons_zero, List.getElem?_cons_succ] at c0 c1 c2 c3 c4
  simp [results, h, hp', go_sem, c0, c1, c2, c3, c4]
theorem Sep.rowLt {w0 w : World} {L : List Res} {e : TypeId} {sz n : Nat} {g cap : Nat} {xs : List Value} (S : Sep w0 w L) (i : Nat) (hi : L[i]? = some (rowR e sz (.slice (some ⟨g, 0, none⟩) n cap) n xs)) (hn : 0 < n) : g < w.heap.size := by
  obtain ⟨F, hp, _⟩ := S.at_ hi
  exact Res.lt (rowR e sz (.slice (some ⟨g, 0, none⟩) n cap) n xs) hp g (by rw [hp.1]; simp [Value.ownBlock])
section
variable {w0 w : World} {L : List Res} {rs : List Nat} {g capl Rn : Nat}
set_option maxRecDepth 100000 in
set_option maxHeartbeats 4000000 in
theorem Write15 (S : Sep w0 w L) (i : Nat) (hi : L[i]? = some (rowR 35 1 (.slice (some ⟨g, 0, none⟩) Rn capl) Rn (nums rs))) (hRn : rs.length = Rn) (hkp : 0 < Rn) (hl40 : Rn ≤ 40) (d0 d1 d2 d3 : Int) (hw0 : 0 ≤ d0 ∧ d0 ≤ 255) (hw1 : 0 ≤ d1 ∧ d1 ≤ 255) (hw2 : 0 ≤ d2 ∧ d2 ≤ 255) (hw3 : 0 ≤ d3 ∧ d3 ≤ 255) :
    Calls Try.prog 29 #[.slice (some ⟨g, 0, none⟩) Rn capl, .agg #[.int .u8 d0, .int .u8 d1, .int .u8 d2, .int .u8 d3]] w fun e w' => ∃ (src old new : Nat) (black : Bool), e = .returned (.agg #[.int .i64 (src : Int), .int .i64 (old : Int), .int .i64 (new : Int), .bool black, .bool false]) ∧ src ∈ rs ∧ (old = 0 ∨ old ∈ rs) ∧ (new = 0 ∨ new ∈ rs) ∧ Sep w0 w' L := by
  obtain ⟨T, hT⟩ : ∃ T, w.heap.size = T := ⟨_, rfl⟩
  have hb := (S.box #[.int .u8 d0, .int .u8 d1, .int .u8 d2, .int .u8 d3] 52).box #[.int .i64 0, .int .i64 0, .int .i64 0, .bool false, .bool false] 54
  rw [World.size_alloc, hT] at hb
  have HB := Lib.hid hb
  have HI := Lib.hid hi
  obtain ⟨K1, um, ul⟩ : ∃ K1 : Nat, d0.tmod (Rn : Int) = (K1 : Int) ∧ K1 < Rn := by
    have h1 := Int.emod_nonneg d0 (show (Rn : Int) ≠ 0 by omega)
    have h2 := Int.emod_lt_of_pos d0 (show (0 : Int) < (Rn : Int) by omega)
    refine ⟨(d0 % (Rn : Int)).toNat, ?_, by omega⟩
    rw [Int.tmod_eq_emod_of_nonneg (by omega)]
    omega
  have uI : (K1 : Int) < (Rn : Int) := by omega
  have u0 : (0 : Int) ≤ (K1 : Int) := by omega
  obtain ⟨K2, vm, vl⟩ : ∃ K2 : Nat, d1.tmod (Rn : Int) = (K2 : Int) ∧ K2 < Rn := by
    have h1 := Int.emod_nonneg d1 (show (Rn : Int) ≠ 0 by omega)
    have h2 := Int.emod_lt_of_pos d1 (show (0 : Int) < (Rn : Int) by omega)
    refine ⟨(d1 % (Rn : Int)).toNat, ?_, by omega⟩
    rw [Int.tmod_eq_emod_of_nonneg (by omega)]
    omega
  have vI : (K2 : Int) < (Rn : Int) := by omega
  have v0 : (0 : Int) ≤ (K2 : Int) := by omega
  obtain ⟨K3, tm, tl⟩ : ∃ K3 : Nat, d2.tmod (Rn : Int) = (K3 : Int) ∧ K3 < Rn := by
    have h1 := Int.emod_nonneg d2 (show (Rn : Int) ≠ 0 by omega)
    have h2 := Int.emod_lt_of_pos d2 (show (0 : Int) < (Rn : Int) by omega)
    refine ⟨(d2 % (Rn : Int)).toNat, ?_, by omega⟩
    rw [Int.tmod_eq_emod_of_nonneg (by omega)]
    omega
  have tI : (K3 : Int) < (Rn : Int) := by omega
  have t0 : (0 : Int) ≤ (K3 : Int) := by omega
  obtain ⟨rx, hx⟩ : ∃ x, rs[K1]? = some x := ⟨_, List.getElem?_eq_getElem (by rw [hRn]; exact ul)⟩
  obtain ⟨ry, hy⟩ : ∃ x, rs[K2]? = some x := ⟨_, List.getElem?_eq_getElem (by rw [hRn]; exact vl)⟩
  obtain ⟨rz, hz⟩ : ∃ x, rs[K3]? = some x := ⟨_, List.getElem?_eq_getElem (by rw [hRn]; exact tl)⟩
  have HX := Lib.hid hx
  have HY := Lib.hid hy
  have HZ := Lib.hid hz
  have HRN := Lib.hid hRn
  have hkz : ¬ (Rn : Int) = 0 := by omega
  have hkb : ((Rn : Int) == 0) = false := by simp; omega
  have hro : Try.prog.follows .mixedOrders = true := by kernel_rfl
  have hkzn : ¬ Rn = 0 := by omega
  have hwr0 : IntKind.i64.wrap d0 = d0 := by rw [IntKind.wrap_i64]; omega
  have hwr1 : IntKind.i64.wrap d1 = d1 := by rw [IntKind.wrap_i64]; omega
  have hwr2 : IntKind.i64.wrap d2 = d2 := by rw [IntKind.wrap_i64]; omega
  have ha3 := and8_3 hw3
  have ha4 := and8_4 hw3
  have ha24 := and8_24 hw3
  clear S hb hi hx hy hz hRn
  go_enter Try.func29, Try.ntmps29
  go_wp2
  obtain ⟨wd, hwd⟩ : ∃ wd, ((w.alloc (.cells #[.int .u8 d0, .int .u8 d1, .int .u8 d2, .int .u8 d3] 52)).alloc (.cells #[.int .i64 0, .int .i64 0, .int .i64 0, .bool false, .bool false] 54)).drew = wd := ⟨_, rfl⟩
  have hd := HB.out.drew
  rw [hwd] at hd
  have k1 := (hd.blk 1 rfl).cell 0
  have k2 := (hd.blk 1 rfl).cell 3
  simp only [List.getElem?_toArray, List.getElem?_cons_zero, List.getElem?_cons_succ] at k1 k2
  have k3 := hd.rowCell (i + 2) (by simpa using HI.out) K1 _ (nums_get _ _ _ HX.out)
  have hd2 := hd.box #[.int .i64 0, .int .i64 0, .int .i64 0, .bool false, .bool false] 54
  have l1 := (hd2.blk 2 rfl).cell 0
  have l2 := (hd2.blk 2 rfl).cell 3
  simp only [List.getElem?_toArray, List.getElem?_cons_zero, List.getElem?_cons_succ] at l1 l2
  have l3 := hd2.rowCell (i + 3) (by simpa using HI.out) K1 _ (nums_get _ _ _ HX.out)
  have hd3 := hd.box #[.int .i64 (rx : Int), .int .i64 0, .int .i64 0, .bool (decide (0 < d3 % 4)), .bool false] 54
  have m1 := (hd3.blk 2 rfl).cell 0
  have m2 := (hd3.blk 2 rfl).cell 3
  simp only [List.getElem?_toArray, List.getElem?_cons_zero, List.getElem?_cons_succ] at m1 m2
  have m3 := hd3.rowCell (i + 3) (by simpa using HI.out) K1 _ (nums_get _ _ _ HX.out)
  have HB1 := Lib.hid hd
  clear hd hd2 hd3
  refine calmP ?_
  refine wp_region_float (fun W => W.cell? ⟨T, 0, none⟩ = some (.int .u8 d0) ∧ W.cell? ⟨T, 3, none⟩ = some (.int .u8 d3) ∧ W.cell? ⟨g, K1, none⟩ = some (.int .i64 (rx : Int))) hro ?_
  rw [hwd]
  clear hwd
  refine wpAnyC_take (i := 0) (v := ?v1) rfl (by kernel_rfl) (by kernel_rfl) (by kernel_rfl) (fun _ _ _ h => h) (.inl ⟨?w1, ?y1⟩) ?h1
  case w1 => kernel_rfl
  case y1 =>
    intro W hf
    obtain ⟨hf1, hf2, hf3⟩ := hf
    unfold yieldsAt
    go_simp
    all_goals first | rfl | exact ⟨rfl, rfl⟩
  simp only [List.getElem_toArray, List.getElem_cons_zero, List.getElem_cons_succ, Act.put, List.setIfInBounds_toArray, List.set_cons_succ, List.set_cons_zero]
  refine wpAnyC_take (i := 1) (v := ?v2) rfl (by kernel_rfl) (by kernel_rfl) (by kernel_rfl) (fun _ _ _ h => h) (.inl ⟨?w2, ?y2⟩) ?h2
  case w2 => kernel_rfl
  case y2 =>
    intro W hf
    obtain ⟨hf1, hf2, hf3⟩ := hf
    unfold yieldsAt
    go_simp
    all_goals first | rfl | exact ⟨rfl, rfl⟩
  simp only [List.getElem_toArray, List.getElem_cons_zero, List.getElem_cons_succ, Act.put, List.setIfInBounds_toArray, List.set_cons_succ, List.set_cons_zero]
  refine wpAnyC_take (i := 2) (v := ?v3) rfl (by kernel_rfl) (by kernel_rfl) (by kernel_rfl) (fun _ _ _ h => h) (.inl ⟨?w3, ?y3⟩) ?h3
  case w3 => kernel_rfl
  case y3 =>
    intro W hf
    obtain ⟨hf1, hf2, hf3⟩ := hf
    unfold yieldsAt
    go_simp
    all_goals first | rfl | exact ⟨rfl, rfl⟩
  simp only [List.getElem_toArray, List.getElem_cons_zero, List.getElem_cons_succ, Act.put, List.setIfInBounds_toArray, List.set_cons_succ, List.set_cons_zero]
  refine wpAnyC_take (i := 3) (v := ?v4) rfl (by kernel_rfl) (by kernel_rfl) (by kernel_rfl) (fun _ _ _ h => h) (.inl ⟨?w4, ?y4⟩) ?h4
  case w4 => kernel_rfl
  case y4 =>
    intro W hf
    obtain ⟨hf1, hf2, hf3⟩ := hf
    unfold yieldsAt
    go_simp
    all_goals first | rfl | exact ⟨rfl, rfl⟩
  simp only [List.getElem_toArray, List.getElem_cons_zero, List.getElem_cons_succ, Act.put, List.setIfInBounds_toArray, List.set_cons_succ, List.set_cons_zero]
  refine wpAnyC_take (i := 4) (v := ?v5) rfl (by kernel_rfl) (by kernel_rfl) (by kernel_rfl) (fun _ _ _ h => h) (.inl ⟨?w5, ?y5⟩) ?h5
  case w5 => kernel_rfl
  case y5 =>
    intro W hf
    obtain ⟨hf1, hf2, hf3⟩ := hf
    unfold yieldsAt
    go_simp
    all_goals first | rfl | exact ⟨rfl, rfl⟩
  simp only [List.getElem_toArray, List.getElem_cons_zero, List.getElem_cons_succ, Act.put, List.setIfInBounds_toArray, List.set_cons_succ, List.set_cons_zero]
  refine wpAnyC_take (i := 5) (v := ?v6) rfl (by kernel_rfl) (by kernel_rfl) (by kernel_rfl) (fun _ _ _ h => h) (.inl ⟨?w6, ?y6⟩) ?h6
  case w6 => kernel_rfl
  case y6 =>
    intro W hf
    obtain ⟨hf1, hf2, hf3⟩ := hf
    unfold yieldsAt
    go_simp
    all_goals first | rfl | exact ⟨rfl, rfl⟩
  simp only [List.getElem_toArray, List.getElem_cons_zero, List.getElem_cons_succ, Act.put, List.setIfInBounds_toArray, List.set_cons_succ, List.set_cons_zero]
  refine wpAnyC_take (i := 6) (v := ?v7) rfl (by kernel_rfl) (by kernel_rfl) (by kernel_rfl) (fun _ _ _ h => h) (.inl ⟨?w7, ?y7⟩) ?h7
  case w7 => kernel_rfl
  case y7 =>
    intro W hf
    obtain ⟨hf1, hf2, hf3⟩ := hf
    unfold yieldsAt
    go_simp
    all_goals first | rfl | exact ⟨rfl, rfl⟩
  simp only [List.getElem_toArray, List.getElem_cons_zero, List.getElem_cons_succ, Act.put, List.setIfInBounds_toArray, List.set_cons_succ, List.set_cons_zero]
  refine wpAnyC_take (i := 7) (v := ?v8) rfl (by kernel_rfl) (by kernel_rfl) (by kernel_rfl) (fun _ _ _ h => h) (.inl ⟨?w8, ?y8⟩) ?h8
  case w8 => kernel_rfl
  case y8 =>
    intro W hf
    obtain ⟨hf1, hf2, hf3⟩ := hf
    unfold yieldsAt
    go_simp
    all_goals first | rfl | exact ⟨rfl, rfl⟩
  simp only [List.getElem_toArray, List.getElem_cons_zero, List.getElem_cons_succ, Act.put, List.setIfInBounds_toArray, List.set_cons_succ, List.set_cons_zero]
  refine wpAnyC_take (i := 8) (v := ?v9) rfl (by kernel_rfl) (by kernel_rfl) (by kernel_rfl) (fun _ _ _ h => h) (.inl ⟨?w9, ?y9⟩) ?h9
  case w9 => kernel_rfl
  case y9 =>
    intro W hf
    obtain ⟨hf1, hf2, hf3⟩ := hf
    unfold yieldsAt
    go_simp
    all_goals first | rfl | exact ⟨rfl, rfl⟩
  simp only [List.getElem_toArray, List.getElem_cons_zero, List.getElem_cons_succ, Act.put, List.setIfInBounds_toArray, List.set_cons_succ, List.set_cons_zero]
  refine wpAnyC_take (i := 9) (v := ?v10) rfl (by kernel_rfl) (by kernel_rfl) (by kernel_rfl) (fun _ _ _ h => h) (.inl ⟨?w10, ?y10⟩) ?h10
  case w10 => kernel_rfl
  case y10 =>
    intro W hf
    obtain ⟨hf1, hf2, hf3⟩ := hf
    unfold yieldsAt
    go_simp
    all_goals first | rfl | exact ⟨rfl, rfl⟩
  simp only [List.getElem_toArray, List.getElem_cons_zero, List.getElem_cons_succ, Act.put, List.setIfInBounds_toArray, List.set_cons_succ, List.set_cons_zero]
  refine wpAnyC_take (i := 10) (v := ?v11) rfl (by kernel_rfl) (by kernel_rfl) (by kernel_rfl) (fun _ _ _ h => h) (.inl ⟨?w11, ?y11⟩) ?h11
  case w11 => kernel_rfl
  case y11 =>
    intro W hf
    obtain ⟨hf1, hf2, hf3⟩ := hf
    unfold yieldsAt
    go_simp
    all_goals first | rfl | exact ⟨rfl, rfl⟩
  simp only [List.getElem_toArray, List.getElem_cons_zero, List.getElem_cons_succ, Act.put, List.setIfInBounds_toArray, List.set_cons_succ, List.set_cons_zero]
  refine wpAnyC_take (i := 11) (v := ?v12) rfl (by kernel_rfl) (by kernel_rfl) (by kernel_rfl) (fun _ _ _ h => h) (.inl ⟨?w12, ?y12⟩) ?h12
  case w12 => kernel_rfl
  case y12 =>
    intro W hf
    obtain ⟨hf1, hf2, hf3⟩ := hf
    unfold yieldsAt
    go_simp
    all_goals first | rfl | exact ⟨rfl, rfl⟩
  simp only [List.getElem_toArray, List.getElem_cons_zero, List.getElem_cons_succ, Act.put, List.setIfInBounds_toArray, List.set_cons_succ, List.set_cons_zero]
  refine wpAnyC_take (i := 12) (v := ?v13) rfl (by kernel_rfl) (by kernel_rfl) (by kernel_rfl) (fun _ _ _ h => h) (.inl ⟨?w13, ?y13⟩) ?h13
  case w13 => kernel_rfl
  case y13 =>
    intro W hf
    obtain ⟨hf1, hf2, hf3⟩ := hf
    unfold yieldsAt
    go_simp
    all_goals first | rfl | exact ⟨rfl, rfl⟩
  simp only [List.getElem_toArray, List.getElem_cons_zero, List.getElem_cons_succ, Act.put, List.setIfInBounds_toArray, List.set_cons_succ, List.set_cons_zero]
  refine wpAnyC_take (i := 13) (v := ?v14) rfl (by kernel_rfl) (by kernel_rfl) (by kernel_rfl) (fun _ _ _ h => h) (.inl ⟨?w14, ?y14⟩) ?h14
  case w14 => kernel_rfl
  case y14 =>
    intro W hf
    obtain ⟨hf1, hf2, hf3⟩ := hf
    unfold yieldsAt
    go_simp
    all_goals first | rfl | exact ⟨rfl, rfl⟩
  simp only [List.getElem_toArray, List.getElem_cons_zero, List.getElem_cons_succ, Act.put, List.setIfInBounds_toArray, List.set_cons_succ, List.set_cons_zero]
  refine wpAnyC_one (i := 14) rfl (by kernel_rfl) ⟨k1, k2, k3⟩ rfl ?_
  intro K hK
  go_simp
  refine hK _ _ ?_
  try simp only [List.getElem_toArray, List.getElem_cons_zero, List.getElem_cons_succ, Act.put, List.setIfInBounds_toArray, List.set_cons_succ, List.set_cons_zero]
  refine wpAnyC_one (i := 15) rfl (by kernel_rfl) ⟨l1, l2, l3⟩ rfl ?_
  intro K hK
  go_simp
  refine hK _ _ ?_
  try simp only [List.getElem_toArray, List.getElem_cons_zero, List.getElem_cons_succ, Act.put, List.setIfInBounds_toArray, List.set_cons_succ, List.set_cons_zero]
  refine wpAnyC_done (by kernel_rfl) ⟨m1, m2, m3⟩ ?_ _
  try simp only [List.getElem_toArray, List.getElem_cons_zero, List.getElem_cons_succ, Act.put, List.setIfInBounds_toArray, List.set_cons_succ, List.set_cons_zero]
  clear k1 k2 k3 l1 l2 l3 m1 m2 m3
  rcases (by omega : d3 / 4 % 2 = 0 ∨ d3 / 4 % 2 = 1) with h4 | h4
  · rw [h4] at ha4
    simp only [Int.mul_zero] at ha4
    rcases (by omega : d3 / 8 % 4 = 0 ∨ 0 < d3 / 8 % 4) with h24 | h24
    · rw [h24] at ha24
      simp only [Int.mul_zero] at ha24
      have hb2 := HB1.out.box #[.int .i64 (rx : Int), .int .i64 0, .int .i64 0, .bool (decide (0 < d3 % 4)), .bool false] 54
      obtain ⟨B, hB⟩ : ∃ B, wd.heap.size = B := ⟨_, rfl⟩
      rw [hB] at hb2
      have h3 := HB1.out
      have ltT := (h3.blk 1 rfl).lt
      have ltR := (h3.blk 0 rfl).lt
      have ltg : g < wd.heap.size := h3.rowLt (i + 2) (by simpa using HI.out) (by omega)
      have a1 : ∀ o, (wd.alloc o).cell? ⟨T, 1, none⟩ = some (.int .u8 d1) := fun o => (World.cell?_alloc_past _ _ _ ltT).trans (by have := (h3.blk 1 rfl).cell 1; simpa using this)
      have a2 : ∀ o, (wd.alloc o).cell? ⟨T, 2, none⟩ = some (.int .u8 d2) := fun o => (World.cell?_alloc_past _ _ _ ltT).trans (by have := (h3.blk 1 rfl).cell 2; simpa using this)
      have a3 : ∀ o, (wd.alloc o).cell? ⟨T, 3, none⟩ = some (.int .u8 d3) := fun o => (World.cell?_alloc_past _ _ _ ltT).trans (by have := (h3.blk 1 rfl).cell 3; simpa using this)
      have cy : ∀ o, (wd.alloc o).cell? ⟨g, K2, none⟩ = some (.int .i64 (ry : Int)) := fun o => (World.cell?_alloc_past _ _ _ ltg).trans (h3.rowCell (i + 2) (by simpa using HI.out) K2 _ (nums_get _ _ _ HY.out))
      have cz : ∀ o, (wd.alloc o).cell? ⟨g, K3, none⟩ = some (.int .i64 (rz : Int)) := fun o => (World.cell?_alloc_past _ _ _ ltg).trans (h3.rowCell (i + 2) (by simpa using HI.out) K3 _ (nums_get _ _ _ HZ.out))
      have r0 : ∀ o, (wd.alloc o).cell? ⟨T + 1, 0, none⟩ = some (.int .i64 0) := fun o => (World.cell?_alloc_past _ _ _ ltR).trans (by have := (h3.blk 0 rfl).cell 0; simpa using this)
      have r1 : ∀ o, (wd.alloc o).cell? ⟨T + 1, 1, none⟩ = some (.int .i64 0) := fun o => (World.cell?_alloc_past _ _ _ ltR).trans (by have := (h3.blk 0 rfl).cell 1; simpa using this)
      have r2 : ∀ o, (wd.alloc o).cell? ⟨T + 1, 2, none⟩ = some (.int .i64 0) := fun o => (World.cell?_alloc_past _ _ _ ltR).trans (by have := (h3.blk 0 rfl).cell 2; simpa using this)
      have r3 : ∀ o, (wd.alloc o).cell? ⟨T + 1, 3, none⟩ = some (.bool false) := fun o => (World.cell?_alloc_past _ _ _ ltR).trans (by have := (h3.blk 0 rfl).cell 3; simpa using this)
      have r4 : ∀ o, (wd.alloc o).cell? ⟨T + 1, 4, none⟩ = some (.bool false) := fun o => (World.cell?_alloc_past _ _ _ ltR).trans (by have := (h3.blk 0 rfl).cell 4; simpa using this)
      have fr : ∀ o j, (wd.alloc o).frozen? ⟨T + 1, j, none⟩ = false := fun o j => ((h3.alloc o).blk 1 rfl).frozen j
      have hbx := HB1.out.box #[.int .i64 (rx : Int), .int .i64 0, .int .i64 0, .bool (decide (0 < d3 % 4)), .bool false] 54
      rw [hB] at hbx
      have HBX := Lib.hid hbx
      clear hbx hb2 h3 ltT ltR ltg HB1
      have hs_ := ((((((HBX.out.setCell 1 rfl 0 (.int .i64 (rx : Int))).setCell 1 rfl 1 (.int .i64 0)).setCell 1 rfl 2 (.int .i64 0)).setCell 1 rfl 3 (.bool (decide (0 < d3 % 4)))).setCell 1 rfl 4 (.bool false)))
      simp only [List.set_cons_succ, List.set_cons_zero, List.setIfInBounds_toArray] at hs_
      have HSX := Lib.hid hs_
      clear hs_
      go_wp2
      have hs_ := HSX.out
      refine bodyPost_ret (results_write rfl rfl (hs_.blk 1 rfl)) rfl ?_
      refine ⟨rx, 0, 0, decide (0 < d3 % 4), rfl, List.mem_of_getElem? HX.out, .inl rfl, .inl rfl, ?_⟩
      exact hs_.tail.tail.tail
    · have hp24 : 0 < 8 * (d3 / 8 % 4) := by omega
      have hb2 := HB1.out.box #[.int .i64 (rx : Int), .int .i64 0, .int .i64 0, .bool (decide (0 < d3 % 4)), .bool false] 54
      obtain ⟨B, hB⟩ : ∃ B, wd.heap.size = B := ⟨_, rfl⟩
      rw [hB] at hb2
      have h3 := HB1.out
      have ltT := (h3.blk 1 rfl).lt
      have ltR := (h3.blk 0 rfl).lt
      have ltg : g < wd.heap.size := h3.rowLt (i + 2) (by simpa using HI.out) (by omega)
      have a1 : ∀ o, (wd.alloc o).cell? ⟨T, 1, none⟩ = some (.int .u8 d1) := fun o => (World.cell?_alloc_past _ _ _ ltT).trans (by have := (h3.blk 1 rfl).cell 1; simpa using this)
      have a2 : ∀ o, (wd.alloc o).cell? ⟨T, 2, none⟩ = some (.int .u8 d2) := fun o => (World.cell?_alloc_past _ _ _ ltT).trans (by have := (h3.blk 1 rfl).cell 2; simpa using this)
      have a3 : ∀ o, (wd.alloc o).cell? ⟨T, 3, none⟩ = some (.int .u8 d3) := fun o => (World.cell?_alloc_past _ _ _ ltT).trans (by have := (h3.blk 1 rfl).cell 3; simpa using this)
      have cy : ∀ o, (wd.alloc o).cell? ⟨g, K2, none⟩ = some (.int .i64 (ry : Int)) := fun o => (World.cell?_alloc_past _ _ _ ltg).trans (h3.rowCell (i + 2) (by simpa using HI.out) K2 _ (nums_get _ _ _ HY.out))
      have cz : ∀ o, (wd.alloc o).cell? ⟨g, K3, none⟩ = some (.int .i64 (rz : Int)) := fun o => (World.cell?_alloc_past _ _ _ ltg).trans (h3.rowCell (i + 2) (by simpa using HI.out) K3 _ (nums_get _ _ _ HZ.out))
      have r0 : ∀ o, (wd.alloc o).cell? ⟨T + 1, 0, none⟩ = some (.int .i64 0) := fun o => (World.cell?_alloc_past _ _ _ ltR).trans (by have := (h3.blk 0 rfl).cell 0; simpa using this)
      have r1 : ∀ o, (wd.alloc o).cell? ⟨T + 1, 1, none⟩ = some (.int .i64 0) := fun o => (World.cell?_alloc_past _ _ _ ltR).trans (by have := (h3.blk 0 rfl).cell 1; simpa using this)
      have r2 : ∀ o, (wd.alloc o).cell? ⟨T + 1, 2, none⟩ = some (.int .i64 0) := fun o => (World.cell?_alloc_past _ _ _ ltR).trans (by have := (h3.blk 0 rfl).cell 2; simpa using this)
      have r3 : ∀ o, (wd.alloc o).cell? ⟨T + 1, 3, none⟩ = some (.bool false) := fun o => (World.cell?_alloc_past _ _ _ ltR).trans (by have := (h3.blk 0 rfl).cell 3; simpa using this)
      have r4 : ∀ o, (wd.alloc o).cell? ⟨T + 1, 4, none⟩ = some (.bool false) := fun o => (World.cell?_alloc_past _ _ _ ltR).trans (by have := (h3.blk 0 rfl).cell 4; simpa using this)
      have fr : ∀ o j, (wd.alloc o).frozen? ⟨T + 1, j, none⟩ = false := fun o j => ((h3.alloc o).blk 1 rfl).frozen j
      have hbx := HB1.out.box #[.int .i64 (rx : Int), .int .i64 0, .int .i64 (rz : Int), .bool (decide (0 < d3 % 4)), .bool false] 54
      rw [hB] at hbx
      have HBX := Lib.hid hbx
      clear hbx hb2 h3 ltT ltR ltg HB1
      have hs_ := ((((((HBX.out.setCell 1 rfl 0 (.int .i64 (rx : Int))).setCell 1 rfl 1 (.int .i64 0)).setCell 1 rfl 2 (.int .i64 (rz : Int))).setCell 1 rfl 3 (.bool (decide (0 < d3 % 4)))).setCell 1 rfl 4 (.bool false)))
      simp only [List.set_cons_succ, List.set_cons_zero, List.setIfInBounds_toArray] at hs_
      have HSX := Lib.hid hs_
      clear hs_
      go_wp2
      have hs_ := HSX.out
      refine bodyPost_ret (results_write rfl rfl (hs_.blk 1 rfl)) rfl ?_
      refine ⟨rx, 0, rz, decide (0 < d3 % 4), rfl, List.mem_of_getElem? HX.out, .inl rfl, .inr (List.mem_of_getElem? HZ.out), ?_⟩
      exact hs_.tail.tail.tail
  · rw [h4] at ha4
    simp only [Int.mul_one] at ha4
    rcases (by omega : d3 / 8 % 4 = 0 ∨ 0 < d3 / 8 % 4) with h24 | h24
    · rw [h24] at ha24
      simp only [Int.mul_zero] at ha24
      have hb2 := HB1.out.box #[.int .i64 (rx : Int), .int .i64 0, .int .i64 0, .bool (decide (0 < d3 % 4)), .bool false] 54
      obtain ⟨B, hB⟩ : ∃ B, wd.heap.size = B := ⟨_, rfl⟩
      rw [hB] at hb2
      have h3 := HB1.out
      have ltT := (h3.blk 1 rfl).lt
      have ltR := (h3.blk 0 rfl).lt
      have ltg : g < wd.heap.size := h3.rowLt (i + 2) (by simpa using HI.out) (by omega)
      have a1 : ∀ o, (wd.alloc o).cell? ⟨T, 1, none⟩ = some (.int .u8 d1) := fun o => (World.cell?_alloc_past _ _ _ ltT).trans (by have := (h3.blk 1 rfl).cell 1; simpa using this)
      have a2 : ∀ o, (wd.alloc o).cell? ⟨T, 2, none⟩ = some (.int .u8 d2) := fun o => (World.cell?_alloc_past _ _ _ ltT).trans (by have := (h3.blk 1 rfl).cell 2; simpa using this)
      have a3 : ∀ o, (wd.alloc o).cell? ⟨T, 3, none⟩ = some (.int .u8 d3) := fun o => (World.cell?_alloc_past _ _ _ ltT).trans (by have := (h3.blk 1 rfl).cell 3; simpa using this)
      have cy : ∀ o, (wd.alloc o).cell? ⟨g, K2, none⟩ = some (.int .i64 (ry : Int)) := fun o => (World.cell?_alloc_past _ _ _ ltg).trans (h3.rowCell (i + 2) (by simpa using HI.out) K2 _ (nums_get _ _ _ HY.out))
      have cz : ∀ o, (wd.alloc o).cell? ⟨g, K3, none⟩ = some (.int .i64 (rz : Int)) := fun o => (World.cell?_alloc_past _ _ _ ltg).trans (h3.rowCell (i + 2) (by simpa using HI.out) K3 _ (nums_get _ _ _ HZ.out))
      have r0 : ∀ o, (wd.alloc o).cell? ⟨T + 1, 0, none⟩ = some (.int .i64 0) := fun o => (World.cell?_alloc_past _ _ _ ltR).trans (by have := (h3.blk 0 rfl).cell 0; simpa using this)
      have r1 : ∀ o, (wd.alloc o).cell? ⟨T + 1, 1, none⟩ = some (.int .i64 0) := fun o => (World.cell?_alloc_past _ _ _ ltR).trans (by have := (h3.blk 0 rfl).cell 1; simpa using this)
      have r2 : ∀ o, (wd.alloc o).cell? ⟨T + 1, 2, none⟩ = some (.int .i64 0) := fun o => (World.cell?_alloc_past _ _ _ ltR).trans (by have := (h3.blk 0 rfl).cell 2; simpa using this)
      have r3 : ∀ o, (wd.alloc o).cell? ⟨T + 1, 3, none⟩ = some (.bool false) := fun o => (World.cell?_alloc_past _ _ _ ltR).trans (by have := (h3.blk 0 rfl).cell 3; simpa using this)
      have r4 : ∀ o, (wd.alloc o).cell? ⟨T + 1, 4, none⟩ = some (.bool false) := fun o => (World.cell?_alloc_past _ _ _ ltR).trans (by have := (h3.blk 0 rfl).cell 4; simpa using this)
      have fr : ∀ o j, (wd.alloc o).frozen? ⟨T + 1, j, none⟩ = false := fun o j => ((h3.alloc o).blk 1 rfl).frozen j
      have hbx := HB1.out.box #[.int .i64 (rx : Int), .int .i64 (ry : Int), .int .i64 0, .bool (decide (0 < d3 % 4)), .bool false] 54
      rw [hB] at hbx
      have HBX := Lib.hid hbx
      clear hbx hb2 h3 ltT ltR ltg HB1
      have hs_ := ((((((HBX.out.setCell 1 rfl 0 (.int .i64 (rx : Int))).setCell 1 rfl 1 (.int .i64 (ry : Int))).setCell 1 rfl 2 (.int .i64 0)).setCell 1 rfl 3 (.bool (decide (0 < d3 % 4)))).setCell 1 rfl 4 (.bool false)))
      simp only [List.set_cons_succ, List.set_cons_zero, List.setIfInBounds_toArray] at hs_
      have HSX := Lib.hid hs_
      clear hs_
      go_wp2
      have hs_ := HSX.out
      refine bodyPost_ret (results_write rfl rfl (hs_.blk 1 rfl)) rfl ?_
      refine ⟨rx, ry, 0, decide (0 < d3 % 4), rfl, List.mem_of_getElem? HX.out, .inr (List.mem_of_getElem? HY.out), .inl rfl, ?_⟩
      exact hs_.tail.tail.tail
    · have hp24 : 0 < 8 * (d3 / 8 % 4) := by omega
      have hb2 := HB1.out.box #[.int .i64 (rx : Int), .int .i64 0, .int .i64 0, .bool (decide (0 < d3 % 4)), .bool false] 54
      obtain ⟨B, hB⟩ : ∃ B, wd.heap.size = B := ⟨_, rfl⟩
      rw [hB] at hb2
      have h3 := HB1.out
      have ltT := (h3.blk 1 rfl).lt
      have ltR := (h3.blk 0 rfl).lt
      have ltg : g < wd.heap.size := h3.rowLt (i + 2) (by simpa using HI.out) (by omega)
      have a1 : ∀ o, (wd.alloc o).cell? ⟨T, 1, none⟩ = some (.int .u8 d1) := fun o => (World.cell?_alloc_past _ _ _ ltT).trans (by have := (h3.blk 1 rfl).cell 1; simpa using this)
      have a2 : ∀ o, (wd.alloc o).cell? ⟨T, 2, none⟩ = some (.int .u8 d2) := fun o => (World.cell?_alloc_past _ _ _ ltT).trans (by have := (h3.blk 1 rfl).cell 2; simpa using this)
      have a3 : ∀ o, (wd.alloc o).cell? ⟨T, 3, none⟩ = some (.int .u8 d3) := fun o => (World.cell?_alloc_past _ _ _ ltT).trans (by have := (h3.blk 1 rfl).cell 3; simpa using this)
      have cy : ∀ o, (wd.alloc o).cell? ⟨g, K2, none⟩ = some (.int .i64 (ry : Int)) := fun o => (World.cell?_alloc_past _ _ _ ltg).trans (h3.rowCell (i + 2) (by simpa using HI.out) K2 _ (nums_get _ _ _ HY.out))
      have cz : ∀ o, (wd.alloc o).cell? ⟨g, K3, none⟩ = some (.int .i64 (rz : Int)) := fun o => (World.cell?_alloc_past _ _ _ ltg).trans (h3.rowCell (i + 2) (by simpa using HI.out) K3 _ (nums_get _ _ _ HZ.out))
      have r0 : ∀ o, (wd.alloc o).cell? ⟨T + 1, 0, none⟩ = some (.int .i64 0) := fun o => (World.cell?_alloc_past _ _ _ ltR).trans (by have := (h3.blk 0 rfl).cell 0; simpa using this)
      have r1 : ∀ o, (wd.alloc o).cell? ⟨T + 1, 1, none⟩ = some (.int .i64 0) := fun o => (World.cell?_alloc_past _ _ _ ltR).trans (by have := (h3.blk 0 rfl).cell 1; simpa using this)
      have r2 : ∀ o, (wd.alloc o).cell? ⟨T + 1, 2, none⟩ = some (.int .i64 0) := fun o => (World.cell?_alloc_past _ _ _ ltR).trans (by have := (h3.blk 0 rfl).cell 2; simpa using this)
      have r3 : ∀ o, (wd.alloc o).cell? ⟨T + 1, 3, none⟩ = some (.bool false) := fun o => (World.cell?_alloc_past _ _ _ ltR).trans (by have := (h3.blk 0 rfl).cell 3; simpa using this)
      have r4 : ∀ o, (wd.alloc o).cell? ⟨T + 1, 4, none⟩ = some (.bool false) := fun o => (World.cell?_alloc_past _ _ _ ltR).trans (by have := (h3.blk 0 rfl).cell 4; simpa using this)
      have fr : ∀ o j, (wd.alloc o).frozen? ⟨T + 1, j, none⟩ = false := fun o j => ((h3.alloc o).blk 1 rfl).frozen j
      have hbx := HB1.out.box #[.int .i64 (rx : Int), .int .i64 (ry : Int), .int .i64 (rz : Int), .bool (decide (0 < d3 % 4)), .bool false] 54
      rw [hB] at hbx
      have HBX := Lib.hid hbx
      clear hbx hb2 h3 ltT ltR ltg HB1
      have hs_ := ((((((HBX.out.setCell 1 rfl 0 (.int .i64 (rx : Int))).setCell 1 rfl 1 (.int .i64 (ry : Int))).setCell 1 rfl 2 (.int .i64 (rz : Int))).setCell 1 rfl 3 (.bool (decide (0 < d3 % 4)))).setCell 1 rfl 4 (.bool false)))
      simp only [List.set_cons_succ, List.set_cons_zero, List.setIfInBounds_toArray] at hs_
      have HSX := Lib.hid hs_
      clear hs_
      go_wp2
      have hs_ := HSX.out
      refine bodyPost_ret (results_write rfl rfl (hs_.blk 1 rfl)) rfl ?_
      refine ⟨rx, ry, rz, decide (0 < d3 % 4), rfl, List.mem_of_getElem? HX.out, .inr (List.mem_of_getElem? HY.out), .inr (List.mem_of_getElem? HZ.out), ?_⟩
      exact hs_.tail.tail.tail
end
end Go.Proofs.Ytbcabjpafeocgaa

/-
  fit of layer 15. Conditions: as the theorem says.
-/
namespace Go.Proofs.Ytbcabjpafeocgaa
set_option linter.unusedVariables false
set_option linter.unusedSimpArgs false
open Go.RowKit Go.Shelf

theorem v1_is {x : Nat} (hx : x ≠ 0) : (Vy.new 1).post true 0 x = ⟨updC (fun _ => 0) x 1, [x], max 1 0, false⟩ := by
  have h1 : (Vy.new 1).up x = ⟨updC (fun _ => 0) x 1, [x], max 1 0, false⟩ := by
    unfold Vy.up
    rw [if_neg hx, if_pos (by simp only [Vy.new, List.length_nil]; omega)]
    rfl
  unfold Vy.post
  rw [if_pos rfl, h1]
  unfold Vy.down
  rw [if_neg (fun h => h.1 rfl)]
theorem twos15 (w : World) (m : Nat) (cs : List Value) (hc : cs = List.replicate m (.int .u8 2)) : ArgI (w.alloc (.cells cs.toArray 5)) (some ⟨w.heap.size, 0, none⟩) m [.u8] (fun _ _ => 2) := by
  intro i hi
  refine ⟨w.heap.size, 0, rfl, by simp, fun j q hq => ?_⟩
  match j, hq with
  | 0, hq =>
    simp at hq
    subst hq
    refine ⟨?_, show (Lit.int .u8 2).wf = true by decide⟩
    have h := (Blk.new w 5 cs.toArray).cell i
    show (w.alloc (.cells cs.toArray 5)).cell? ⟨w.heap.size, 0 + i * 1 + 0, none⟩ = some (.int .u8 2)
    rw [show 0 + i * 1 + 0 = i by omega, h, hc]
    simp [hi]
theorem argI_none15 (w : World) (qs : List IntKind) : ArgI w none 0 qs (fun _ _ => 0) := fun i hi => absurd hi (by omega)
set_option maxRecDepth 100000 in
set_option maxHeartbeats 4000000 in
theorem fit15 (w : World) : Calls Try.prog 27 #[] w fun e w' => e = .returned (.bool true) ∧ Chg [] w w' := by
  obtain ⟨W, hW⟩ : ∃ W, w.alloc (.cells #[.int .u8 2, .int .u8 2] 5) = W := ⟨_, rfl⟩
  have hz := twos15 w 2 [.int .u8 2, .int .u8 2] rfl
  simp only [List.toArray] at hz
  have hch := (Chg.refl [] w).alloc (.cells #[.int .u8 2, .int .u8 2] 5)
  rw [hW] at hch
  have hz' : ArgI W (some ⟨w.heap.size, 0, none⟩) 2 [.u8] (fun _ _ => 2) := by rw [← hW]; exact hz
  have HZ := Lib.hid hz'
  have HCH := Lib.hid hch
  have HMD := Lib.hid (Made11 (some ⟨w.heap.size, 0, none⟩) 2 2 (fun _ _ => 2) none 0 0 (fun _ _ => 0) hz' (argI_none15 W _) (by omega) (by omega) (Sep.start W))
  have hro : Try.prog.follows .mixedOrders = true := by kernel_rfl
  clear hz hz' hch
  go_enter Try.func27, Try.ntmps27
  go_wp2_with (first
    | (go_at_call 14; refine (HMD.out).mono ?_; rintro e w3 ⟨a, b, v, A, rs, fs, rfl, hgr, hlen, hs⟩; obtain ⟨x, y, rfl⟩ : ∃ x y, rs = [x, y] := (by match rs, hlen with | [x, y], _ => exact ⟨x, y, rfl⟩); have HGR := Lib.hid hgr; obtain ⟨g, capl, hv, _, _⟩ := hs.rowSome 1 rfl (by simp); rw [hv] at hs ⊢; have HS3 := Lib.hid hs; clear hs hgr hlen hv HMD)
    | (go_at_call 15; refine (KNew HS3.out 0 rfl HGR.out.size (by omega) 4 (by omega)).mono ?_; rintro e w4 ⟨m, rfl, hs⟩; have HC := Lib.hid (VNew hs 0 1 rfl rfl HGR.out.size (by omega) 1 (by omega)); clear hs HS3)
    | (go_at_call 28; refine (HC.out).mono ?_; rintro e w5 ⟨bb, rfl, hs⟩; have HS5 := Lib.hid (show Sep W w5 (vybR bb m 2049 (Vy.new 1) :: markR m a 2049 (Col.white) :: arenaR a A :: rowR 35 1 (.slice (some ⟨g, 0, none⟩) 2 capl) 2 (nums [x, y]) :: adjR Try.prog 35 35 b (ptsOf fs) :: []) from hs); clear hs HC))
  have HXL := Lib.hid (HGR.out.lt (x := x) (by simp))
  have HYL := Lib.hid (HGR.out.lt (x := y) (by simp))
  have HNE := Lib.hid (show y ≠ x from fun e => by have := HGR.out.nodup; rw [e] at this; simp at this)
  obtain ⟨wd1, hwd1⟩ : ∃ wd, (w5).drew = wd := ⟨_, rfl⟩
  have hd := HS5.out.drew
  rw [hwd1] at hd
  have x0 := hd.rowCell 3 rfl 0 _ (nums_get [x, y] 0 x rfl); have x1 := hd.rowCell 3 rfl 1 _ (nums_get [x, y] 1 y rfl)
  have HS6 := Lib.hid hd
  clear hd HS5
  refine wp_region_still_tail 8 (by kernel_rfl) (by kernel_rfl) ?_
  change wpStill _ _ (World.drew _) (fun a' => wpList _ _ _ _ a' (World.drew _)) _ _
  rw [hwd1]
  clear hwd1
  simp only [List.take_succ_cons, List.take_zero, List.drop_succ_cons, List.drop_zero]
  repeat still_step
  refine wpStill_nil ?_
  have HCP := Lib.hid (VPostNew HS6.out 0 rfl (x : Int) y false false (by omega) HYL.out.2)
  clear x0 x1
  go_wp2_with (go_at_call 30; refine (HCP.out).mono ?_; rintro e w6 ⟨rfl, hs⟩; have HS7 := Lib.hid (show Sep W w6 (vybR bb m 2049 (Vy.new 1) :: markR m a 2049 (Col.white) :: arenaR a A :: rowR 35 1 (.slice (some ⟨g, 0, none⟩) 2 capl) 2 (nums [x, y]) :: adjR Try.prog 35 35 b (ptsOf fs) :: []) from hs); clear hs HCP HS6)
  obtain ⟨wd2, hwd2⟩ : ∃ wd, (w6).drew = wd := ⟨_, rfl⟩
  have hd := HS7.out.drew
  rw [hwd2] at hd
  have x0 := hd.rowCell 3 rfl 0 _ (nums_get [x, y] 0 x rfl); have x1 := hd.rowCell 3 rfl 1 _ (nums_get [x, y] 1 y rfl)
  have HS8 := Lib.hid hd
  clear hd HS7
  refine wp_region_still_tail 8 (by kernel_rfl) (by kernel_rfl) ?_
  change wpStill _ _ (World.drew _) (fun a' => wpList _ _ _ _ a' (World.drew _)) _ _
  rw [hwd2]
  clear hwd2
  simp only [List.take_succ_cons, List.take_zero, List.drop_succ_cons, List.drop_zero]
  repeat still_step
  refine wpStill_nil ?_
  have HCQ := Lib.hid (VPostNew HS8.out 0 rfl (x : Int) x true false (by omega) HXL.out.2)
  clear x0 x1
  go_wp2_with (first
    | (go_at_call 30; refine (HCQ.out).mono ?_; rintro e w7 ⟨rfl, hs⟩; have HCR := Lib.hid (PRemark (show Sep W w7 (vybR bb m 2049 ((Vy.new 1).post true 0 x) :: markR m a 2049 (Col.white) :: arenaR a A :: rowR 35 1 (.slice (some ⟨g, 0, none⟩) 2 capl) 2 (nums [x, y]) :: adjR Try.prog 35 35 b (ptsOf fs) :: []) from hs) HGR.out.size HGR.out.heap.wf); clear hs HCQ HS8)
    | (go_at_call 31; refine (HCR.out).mono ?_; rintro e w8 ⟨rfl, hs⟩; have hok := VOk hs 0 rfl; have HOK := Lib.hid hok; have h2 := (show Sep W w8 (vybR bb m 2049 ((Vy.new 1).post true 0 x) :: markR m a 2049 (Col.white.shades (((Vy.new 1).post true 0 x).what (elems 2049 A.tk))) :: arenaR a A :: rowR 35 1 (.slice (some ⟨g, 0, none⟩) 2 capl) 2 (nums [x, y]) :: adjR Try.prog 35 35 b (ptsOf fs) :: []) from hs); have x0 := h2.rowCell 3 rfl 0 _ (nums_get [x, y] 0 x rfl); have x1 := h2.rowCell 3 rfl 1 _ (nums_get [x, y] 1 y rfl); have HS9 := Lib.hid h2; have HM1 := Lib.hid (KMarked h2 1 rfl x HXL.out.2); clear hs h2 hok HCR)
    | (go_at_call 67; refine (VRescans _ bb).mono ?_; rintro e w9 ⟨rfl, rfl⟩)
    | (go_at_call 32; refine (HM1.out).mono ?_; rw [remark_mz HGR.out HOK.out (show x ∈ [x, y] by simp), show ((Vy.new 1).post true 0 x).cnt x = 1 by rw [v1_is (Nat.pos_iff_ne_zero.1 HXL.out.1)]; simp [updC]]; rintro e w10 ⟨rfl, hs⟩; have x0 := hs.rowCell 3 rfl 0 _ (nums_get [x, y] 0 x rfl); have x1 := hs.rowCell 3 rfl 1 _ (nums_get [x, y] 1 y rfl); have HM2 := Lib.hid (KMarked hs 1 rfl y HYL.out.2); clear hs HM1 HS9)
    | (go_at_call 32; refine (HM2.out).mono ?_; rw [remark_mz HGR.out HOK.out (show y ∈ [x, y] by simp), show ((Vy.new 1).post true 0 x).cnt y = 0 by rw [v1_is (Nat.pos_iff_ne_zero.1 HXL.out.1)]; simp [updC, HNE.out]]; rintro e w11 ⟨rfl, hs⟩; have x0 := hs.rowCell 3 rfl 0 _ (nums_get [x, y] 0 x rfl); have x1 := hs.rowCell 3 rfl 1 _ (nums_get [x, y] 1 y rfl); have HM3 := Lib.hid (VCount hs 0 rfl x HXL.out.2); have HS10 := Lib.hid hs; have HM4 := Lib.hid (VOver hs 0 rfl); clear hs HM2)
    | (go_at_call 33; refine (HM3.out).mono ?_; rw [show ((Vy.new 1).post true 0 x).cnt x = 1 by rw [v1_is (Nat.pos_iff_ne_zero.1 HXL.out.1)]; simp [updC]]; rintro e w12 ⟨rfl, rfl⟩; clear HM3)
    | (go_at_call 34; refine (HM4.out).mono ?_; rw [show ((Vy.new 1).post true 0 x).over = false by rw [v1_is (Nat.pos_iff_ne_zero.1 HXL.out.1)]]; rintro e w13 ⟨rfl, rfl⟩; clear HM4))
  go_ret
  exact ⟨rfl, HCH.out.trans HS10.out.chg (by simp)⟩
end Go.Proofs.Ytbcabjpafeocgaa

/-
  The walk of VybWhite. Conditions: as the theorem says.
-/
namespace Go.Proofs.Ytbcabjpafeocgaa
set_option linter.unusedVariables false
set_option linter.unusedSimpArgs false
open Go.RowKit Go.Shelf

theorem v0_is {x : Nat} (hx : x ≠ 0) : (Vy.new 0).post true 0 x = ⟨updC (fun _ => 0) x 1, [], max 0 0, true⟩ := by
  have h1 : (Vy.new 0).up x = ⟨updC (fun _ => 0) x 1, [], max 0 0, true⟩ := by
    unfold Vy.up
    rw [if_neg hx, if_neg (by simp only [Vy.new, List.length_nil]; omega)]
    rfl
  unfold Vy.post
  rw [if_pos rfl, h1]
  unfold Vy.down
  rw [if_neg (fun h => h.1 rfl)]
theorem white_one {x : Nat} {all : List Nat} (hx : x ≠ 0) (ha : x ∈ all) (hn : x < 2049) : (elems 2049 (Col.white.shades (((Vy.new 0).post true 0 x).what all)).mz).length = 1 := by
  have e : (Col.white.shades (((Vy.new 0).post true 0 x).what all)).mz = fun y => decide (y = x) := by
    funext y
    rw [white_shades, v0_is hx, Bool.eq_iff_iff, decide_eq_true_eq, decide_eq_true_eq]
    unfold Vy.what
    rw [if_pos rfl, List.mem_filter, decide_eq_true_eq]
    constructor
    · rintro ⟨_, h⟩
      by_cases e : y = x
      · exact e
      · have h' : 0 < updC (fun _ => 0) x 1 y := h
        rw [updC_other _ _ e] at h'; omega
    · rintro rfl
      exact ⟨ha, by show 0 < updC (fun _ => 0) y 1 y; rw [updC_same]; omega⟩
  rw [e, elems_count (l := [x]) (by simp) (by simpa using hn) (fun y hy => by have := of_decide_eq_true hy; simp [this])]
  simp
set_option maxRecDepth 100000 in
set_option maxHeartbeats 16000000 in
theorem vybWhite_walk (A0 : Option Addr) (n0 c0 : Nat) (D0 : Nat → Nat → Int) (A1 : Option Addr) (n1 c1 : Nat) (D1 : Nat → Nat → Int) (A2 : Option Addr) (n2 c2 : Nat) (D2 : Nat → Nat → Int) (w : World) (hz0 : ArgI w A0 n0 [.u8] D0) (hm0 : n0 ≤ maxLen) (hz1 : ArgI w A1 n1 [.u16, .u16, .u16] D1) (hm1 : n1 ≤ maxLen) (hz2 : ArgI w A2 n2 [.u8, .u8, .u8, .u8] D2) (hm2 : n2 ≤ maxLen) :
    Calls Try.prog 9 #[.agg #[.slice A0 n0 c0, .slice A1 n1 c1], .slice A2 n2 c2] w fun e w' => e = .returned (.bool true) ∧ Below w.heap.size w w' := by
  have HZ0 := Lib.hid hz0
  have HZ1 := Lib.hid hz1
  have HZ2 := Lib.hid hz2
  unfold maxLen at hm0 hm1
  try unfold maxLen at hm2
  clear hz0 hz1 hz2
  obtain ⟨T, hT⟩ : ∃ T, w.heap.size = T := ⟨_, rfl⟩
  have hs0 := (Sep.start w).box #[.slice A0 n0 c0, .slice A1 n1 c1] 25
  rw [hT] at hs0
  have HS0 := Lib.hid hs0
  clear hs0
  go_enter Try.func9, Try.ntmps9
  by_cases hsmall : (n0 ≤ 40 ∧ n1 ≤ 120) ∧ n2 ≤ 60
  · have hsd : (decide (n0 ≤ 40) && decide (n1 ≤ 120)) = true := by rw [decide_eq_true hsmall.1.1, decide_eq_true hsmall.1.2]; rfl
    have HSD := Lib.hid hsd
    obtain ⟨⟨hn0, hn1⟩, hn2⟩ := hsmall
    clear hsd
    have hgt : ¬ (60 : Int) < (n2 : Int) := by omega
    rcases Nat.eq_zero_or_pos n0 with hk0 | hkp
    · have HK0 := Lib.hid hk0
      clear hk0
      go_wp2_with (first
        | (go_at_call 27; refine (fit15 _).mono ?_; rintro e w1 ⟨rfl, hC⟩; have hs1 := HS0.out.same hC; have p0 := (hs1.blk 0 rfl).cell 0; have p1 := (hs1.blk 0 rfl).cell 1; simp only [List.getElem?_toArray, List.getElem?_cons_zero, List.getElem?_cons_succ] at p0 p1; have HS1 := Lib.hid hs1; clear hC hs1 HS0)
        | (go_at_call 13; refine (Small11 _ A0 n0 c0 A1 n1 c1).mono ?_; rw [HSD.out]; rintro e w2 ⟨rfl, hC⟩; have hs1 := HS1.out.same hC; have p0 := (hs1.blk 0 rfl).cell 0; have p1 := (hs1.blk 0 rfl).cell 1; simp only [List.getElem?_toArray, List.getElem?_cons_zero, List.getElem?_cons_succ] at p0 p1; have HS2 := Lib.hid hs1; clear hC hs1 HS1)
        | (go_at_call 14; refine (Made11 A0 n0 c0 D0 A1 n1 c1 D1 HZ0.out HZ1.out hn0 hn1 HS2.out).mono ?_; rintro e w3 ⟨a, b, v, A, rs, fs, rfl, hgr, hlen, hs⟩; have p0 := (hs.blk 3 rfl).cell 0; have p1 := (hs.blk 3 rfl).cell 1; simp only [List.getElem?_toArray, List.getElem?_cons_zero, List.getElem?_cons_succ] at p0 p1; have HGR := Lib.hid hgr; obtain ⟨AL, capl, rfl, hcapl, hmcapl⟩ := hs.rowShape 1 rfl; unfold maxLen at hmcapl; obtain ⟨Rn, hRn⟩ : ∃ Rn, rs.length = Rn := ⟨_, rfl⟩; have HRN := Lib.hid hRn; rw [hRn] at hcapl hs; try rw [hRn]; rw [hRn] at hlen; have hl40 : Rn ≤ 40 := (by omega); have HLEN := Lib.hid hlen; have hr0I : (Rn : Int) = 0 := (by have := HK0.out; omega); have hr0b : ((Rn : Int) == 0) = true := (by simpa using hr0I); have HS3 := Lib.hid hs; clear hs hgr HS2 hRn hlen))
      go_ret
      exact ⟨rfl, HS3.out.below⟩
    go_wp2_with (first
      | (go_at_call 27; refine (fit15 _).mono ?_; rintro e w1 ⟨rfl, hC⟩; have hs1 := HS0.out.same hC; have p0 := (hs1.blk 0 rfl).cell 0; have p1 := (hs1.blk 0 rfl).cell 1; simp only [List.getElem?_toArray, List.getElem?_cons_zero, List.getElem?_cons_succ] at p0 p1; have HS1 := Lib.hid hs1; clear hC hs1 HS0)
      | (go_at_call 13; refine (Small11 _ A0 n0 c0 A1 n1 c1).mono ?_; rw [HSD.out]; rintro e w2 ⟨rfl, hC⟩; have hs1 := HS1.out.same hC; have p0 := (hs1.blk 0 rfl).cell 0; have p1 := (hs1.blk 0 rfl).cell 1; simp only [List.getElem?_toArray, List.getElem?_cons_zero, List.getElem?_cons_succ] at p0 p1; have HS2 := Lib.hid hs1; clear hC hs1 HS1)
      | (go_at_call 14; refine (Made11 A0 n0 c0 D0 A1 n1 c1 D1 HZ0.out HZ1.out hn0 hn1 HS2.out).mono ?_; rintro e w3 ⟨a, b, v, A, rs, fs, rfl, hgr, hlen, hs⟩; have p0 := (hs.blk 3 rfl).cell 0; have p1 := (hs.blk 3 rfl).cell 1; simp only [List.getElem?_toArray, List.getElem?_cons_zero, List.getElem?_cons_succ] at p0 p1; have HGR := Lib.hid hgr; obtain ⟨AL, capl, rfl, hcapl, hmcapl⟩ := hs.rowShape 1 rfl; unfold maxLen at hmcapl; obtain ⟨Rn, hRn⟩ : ∃ Rn, rs.length = Rn := ⟨_, rfl⟩; have HRN := Lib.hid hRn; rw [hRn] at hcapl hs; try rw [hRn]; rw [hRn] at hlen; have hl40 : Rn ≤ 40 := (by omega); have HLEN := Lib.hid hlen; have hr0I : ¬ (Rn : Int) = 0 := (by omega); have hr0b : ((Rn : Int) == 0) = false := (by simp; omega); have hRp : 0 < Rn := (by omega); have HS3 := Lib.hid hs; clear hs hgr HS2 hRn hlen)
      | (go_at_call 15; refine (KNew HS3.out 0 rfl HGR.out.size (by omega) 64 (by omega)).mono ?_; rintro e w4 ⟨m, rfl, hs⟩; have HC := Lib.hid (VNew hs 0 1 rfl rfl HGR.out.size (by omega) (0) (by omega)); clear hs HS3)
      | (go_at_call 28; refine (HC.out).mono ?_; rintro e w5 ⟨bb, rfl, hs⟩; have HS5 := Lib.hid (show Sep w w5 (vybR bb m 2049 (Vy.new (0)) :: markR m a 2049 (Col.white) :: arenaR a A :: rowR 35 1 (.slice AL Rn capl) Rn (nums rs) :: adjR Try.prog 35 35 b (ptsOf fs) :: blkR T 25 #[.slice A0 n0 c0, .slice A1 n1 c1] :: []) from hs); clear hs HC))
    obtain ⟨g, cap', hsl, _, _⟩ := HS5.out.rowSome 3 rfl hRp
    simp only [Value.slice.injEq] at hsl
    obtain ⟨rfl, _, rfl⟩ := hsl
    go_loopw [40] (fun i wr => ∃ (k : Nat) , k ≤ n2 ∧ i = .int .i64 k ∧ Sep w wr (vybR bb m 2049 (Vy.new 0) :: markR m a 2049 (Col.white) :: arenaR a A :: rowR 35 1 (.slice (some ⟨g, 0, none⟩) Rn capl) Rn (nums rs) :: adjR Try.prog 35 35 b (ptsOf fs) :: blkR T 25 #[.slice A0 n0 c0, .slice A1 n1 c1] :: [])) (fun i _ => n2 + 1 - (intOf i).toNat)
    case atStart => exact ⟨0, by omega, rfl, HS5.out⟩
    case round =>
      clear HS5
      obtain ⟨k, hk, rfl, hs⟩ := hrel
      by_cases hlt : k < n2
      · have hltI : (k : Int) < (n2 : Int) := by omega
        obtain ⟨ab, ao, hA0, hcell⟩ := HZ2.out.at_ hs.own hlt
        subst hA0
        have hc0 := hcell 0 _ rfl
        have hw0 := wf8 (HZ2.out.wf hlt 0 .u8 rfl)
        have hc1 := hcell 1 _ rfl
        have hw1 := wf8 (HZ2.out.wf hlt 1 .u8 rfl)
        have hc2 := hcell 2 _ rfl
        have hw2 := wf8 (HZ2.out.wf hlt 2 .u8 rfl)
        have hc3 := hcell 3 _ rfl
        have hw3 := wf8 (HZ2.out.wf hlt 3 .u8 rfl)
        simp at hc0 hc1 hc2 hc3
        obtain ⟨d0, h0⟩ : ∃ d, D2 k 0 = d := ⟨_, rfl⟩
        rw [h0] at hc0 hw0
        obtain ⟨d1, h1⟩ : ∃ d, D2 k 1 = d := ⟨_, rfl⟩
        rw [h1] at hc1 hw1
        obtain ⟨d2, h2⟩ : ∃ d, D2 k 2 = d := ⟨_, rfl⟩
        rw [h2] at hc2 hw2
        obtain ⟨d3, h3⟩ : ∃ d, D2 k 3 = d := ⟨_, rfl⟩
        rw [h3] at hc3 hw3
        clear hcell h0 h1 h2 h3
        have hsb := hs.box #[.int .u8 d0, .int .u8 d1, .int .u8 d2, .int .u8 d3] 52
        obtain ⟨T5, hT5⟩ : ∃ T5, wr.heap.size = T5 := ⟨_, rfl⟩
        rw [hT5] at hsb
        have z0 := (hsb.blk 0 rfl).cell 0
        have z1 := (hsb.blk 0 rfl).cell 1
        have z2 := (hsb.blk 0 rfl).cell 2
        have z3 := (hsb.blk 0 rfl).cell 3
        simp only [List.getElem?_toArray, List.getElem?_cons_zero, List.getElem?_cons_succ] at z0 z1 z2 z3
        have HCW := Lib.hid (Write15 hsb 4 rfl HRN.out hRp (by omega) d0 d1 d2 d3 hw0 hw1 hw2 hw3)
        clear hs hsb
        go_wp2_with (first
          | (go_at_call 29; refine (HCW.out).mono ?_; rintro e w6 ⟨src, old, new, black, rfl, hsrc, hold, hnew, hs⟩; have hol : old < 2049 := hold.elim (fun h => by omega) (fun h => (HGR.out.lt h).2); have hnl : new < 2049 := hnew.elim (fun h => by omega) (fun h => (HGR.out.lt h).2); have hs6 := hs.box #[.int .i64 (src : Int), .int .i64 (old : Int), .int .i64 (new : Int), .bool false, .bool false] 54; have q0 := (hs6.blk 0 rfl).cell 0; have q1 := (hs6.blk 0 rfl).cell 1; have q2 := (hs6.blk 0 rfl).cell 2; have q3 := (hs6.blk 0 rfl).cell 3; have q4 := (hs6.blk 0 rfl).cell 4; simp only [List.getElem?_toArray, List.getElem?_cons_zero, List.getElem?_cons_succ] at q0 q1 q2 q3 q4; have HCP := Lib.hid (VPost hs6 2 rfl (src : Int) old new false false hol hnl); clear hs hs6 HCW z0 z1 z2 z3)
          | (go_at_call 40; refine (VPre _ bb (src : Int) (old : Int)).mono ?_; rintro e w8 ⟨rfl, rfl⟩)
          | (go_at_call 30; refine (HCP.out).mono ?_; rintro e w7 ⟨rfl, hs⟩; have HS7 := Lib.hid hs.tail.tail; clear hs HCP q0 q1 q2 q3 q4))
        go_roundw
        case rel => exact ⟨k + 1, by omega, by go_num, HS7.out⟩
        case measure => simp [intOf]; omega
      · obtain rfl : n2 = k := by omega
        have HVO := Lib.hid (VOver hs 0 rfl)
        have HCR := Lib.hid (PRemark (show Sep w wr (vybR bb m 2049 (Vy.new 0) :: markR m a 2049 (Col.white) :: arenaR a A :: rowR 35 1 (.slice (some ⟨g, 0, none⟩) Rn capl) Rn (nums rs) :: adjR Try.prog 35 35 b (ptsOf fs) :: blkR T 25 #[.slice A0 n0 c0, .slice A1 n1 c1] :: []) from hs) HGR.out.size HGR.out.heap.wf)
        clear hs
        go_wp2_with (first
          | (go_at_call 34; refine (HVO.out).mono ?_; rw [show (Vy.new 0).over = false from rfl]; rintro e w9 ⟨rfl, rfl⟩; clear HVO)
          | (go_at_call 31; refine (HCR.out).mono ?_; rintro e w8 ⟨rfl, hs⟩; have HSE := Lib.hid (show Sep w w8 (vybR bb m 2049 (Vy.new 0) :: markR m a 2049 (Col.white) :: arenaR a A :: rowR 35 1 (.slice (some ⟨g, 0, none⟩) Rn capl) Rn (nums rs) :: adjR Try.prog 35 35 b (ptsOf fs) :: blkR T 25 #[.slice A0 n0 c0, .slice A1 n1 c1] :: []) from hs); clear hs HCR))
        go_loopw [64] (fun i wr => ∃ (k : Nat), k ≤ Rn ∧ i = .int .i64 k ∧ Sep w wr (vybR bb m 2049 (Vy.new 0) :: markR m a 2049 (Col.white) :: arenaR a A :: rowR 35 1 (.slice (some ⟨g, 0, none⟩) Rn capl) Rn (nums rs) :: adjR Try.prog 35 35 b (ptsOf fs) :: blkR T 25 #[.slice A0 n0 c0, .slice A1 n1 c1] :: [])) (fun i _ => Rn + 1 - (intOf i).toNat)
        case atStart => exact ⟨0, by omega, rfl, HSE.out⟩
        case round =>
          clear HSE
          obtain ⟨k, hk, rfl, hs⟩ := hrel
          by_cases hlt : k < Rn
          · have hltI : (k : Int) < (Rn : Int) := by omega
            obtain ⟨x, hx⟩ : ∃ z_, rs[k]? = some z_ := ⟨_, List.getElem?_eq_getElem (by rw [HRN.out]; exact hlt)⟩
            have cx := hs.rowCell 3 rfl k _ (nums_get _ _ _ hx)
            have hx2 := HGR.out.lt (List.mem_of_getElem? hx)
            have HVC := Lib.hid (VCount hs 0 rfl x hx2.2)
            have HMK := Lib.hid (KMarked hs 1 rfl x hx2.2)
            clear hs hx
            go_wp2_with (first
              | (go_at_call 33; refine (HVC.out).mono ?_; rw [show (Vy.new 0).cnt x = 0 from rfl]; rintro e w7 ⟨rfl, rfl⟩; clear HVC)
              | (go_at_call 32; refine (HMK.out).mono ?_; rw [show Col.white.mz x = false from rfl]; rintro e w8 ⟨rfl, hs⟩; have HS7 := Lib.hid hs; clear hs HMK))
            go_roundw
            case rel => exact ⟨k + 1, by omega, by go_num, HS7.out⟩
            case measure => simp [intOf]; omega
          · obtain rfl : Rn = k := by omega
            have HSA := Lib.hid hs
            clear hs
            obtain ⟨r0, hr0⟩ : ∃ x, rs[0]? = some x := ⟨_, List.getElem?_eq_getElem (by rw [HRN.out]; exact hRp)⟩
            have hr0m := List.mem_of_getElem? hr0
            have hr2 := HGR.out.lt hr0m
            have hr0z : r0 ≠ 0 := by omega
            have HX0 := Lib.hid hr0
            have HR0 := Lib.hid hr0m
            have HR0Z := Lib.hid hr0z
            have hro : Try.prog.follows .mixedOrders = true := by kernel_rfl
            clear hr0 hr0m hr0z
            go_wp2
            obtain ⟨wd1, hwd1⟩ : ∃ wd, (wr).drew = wd := ⟨_, rfl⟩
            have hd := HSA.out.drew
            rw [hwd1] at hd
            have x0 := hd.rowCell 3 rfl 0 _ (nums_get _ _ _ HX0.out)

            have HSA2 := Lib.hid hd
            clear hd HSA
            refine wp_region_still_tail 8 (by kernel_rfl) (by kernel_rfl) ?_
            change wpStill _ _ (World.drew _) (fun a' => wpList _ _ _ _ a' (World.drew _)) _ _
            rw [hwd1]
            clear hwd1
            simp only [List.take_succ_cons, List.take_zero, List.drop_succ_cons, List.drop_zero]
            repeat still_step
            refine wpStill_nil ?_
            have HCP := Lib.hid (VPostNew HSA2.out 0 rfl (r0 : Int) r0 true false (by omega) hr2.2)
            clear x0
            go_wp2_with (first
              | (go_at_call 30; refine (HCP.out).mono ?_; rintro e w7 ⟨rfl, hs⟩; have hok := VOk hs 0 rfl; have HOK := Lib.hid hok; have HCR := Lib.hid (PRemark (show Sep w w7 (vybR bb m 2049 ((Vy.new 0).post true 0 r0) :: markR m a 2049 (Col.white) :: arenaR a A :: rowR 35 1 (.slice (some ⟨g, 0, none⟩) Rn capl) Rn (nums rs) :: adjR Try.prog 35 35 b (ptsOf fs) :: blkR T 25 #[.slice A0 n0 c0, .slice A1 n1 c1] :: []) from hs) HGR.out.size HGR.out.heap.wf); clear hs hok HCP HSA2)
              | (go_at_call 31; refine (HCR.out).mono ?_; rintro e w8 ⟨rfl, hs⟩; have x0 := hs.rowCell 3 rfl 0 _ (nums_get _ _ _ HX0.out); have HVO := Lib.hid (VOver hs 0 rfl); have HVC := Lib.hid (VCount hs 0 rfl r0 hr2.2); have HMK := Lib.hid (KMarked hs 1 rfl r0 hr2.2); clear hs HCR)
              | (go_at_call 34; refine (HVO.out).mono ?_; rw [show ((Vy.new 0).post true 0 r0).over = true by rw [v0_is HR0Z.out]]; rintro e w9 ⟨rfl, rfl⟩; clear HVO)
              | (go_at_call 33; refine (HVC.out).mono ?_; rw [show ((Vy.new 0).post true 0 r0).cnt r0 = 1 by rw [v0_is HR0Z.out]; simp [updC]]; rintro e w10 ⟨rfl, rfl⟩; clear HVC)
              | (go_at_call 32; refine (HMK.out).mono ?_; rw [remark_mz HGR.out HOK.out HR0.out, show ((Vy.new 0).post true 0 r0).cnt r0 = 1 by rw [v0_is HR0Z.out]; simp [updC]]; rintro e w11 ⟨rfl, hs⟩; clear x0; have HKC := Lib.hid (KCount hs 1 rfl); clear hs HMK)
              | (go_at_call 41; refine (HKC.out).mono ?_; rw [white_one HR0Z.out (gr_tk HGR.out HR0.out) hr2.2]; rintro e w12 ⟨rfl, hs⟩; have HS9 := Lib.hid hs; clear hs HKC))
            go_ret
            exact ⟨rfl, HS9.out.below⟩
  · by_cases hsm : n0 ≤ 40 ∧ n1 ≤ 120
    · have HSD := Lib.hid (show (decide (n0 ≤ 40) && decide (n1 ≤ 120)) = true by rw [decide_eq_true hsm.1, decide_eq_true hsm.2]; rfl)
      have hgt : (60 : Int) < (n2 : Int) := by omega
      clear hsm hsmall
      go_wp2_with (first
        | (go_at_call 27; refine (fit15 _).mono ?_; rintro e w1 ⟨rfl, hC⟩; have hs1 := HS0.out.same hC; have p0 := (hs1.blk 0 rfl).cell 0; have p1 := (hs1.blk 0 rfl).cell 1; simp only [List.getElem?_toArray, List.getElem?_cons_zero, List.getElem?_cons_succ] at p0 p1; have HS1 := Lib.hid hs1; clear hC hs1 HS0)
        | (go_at_call 13; refine (Small11 _ A0 n0 c0 A1 n1 c1).mono ?_; rw [HSD.out]; rintro e w2 ⟨rfl, hC⟩; have HS2 := Lib.hid (HS1.out.same hC); clear hC HS1))
      go_ret
      exact ⟨rfl, HS2.out.below⟩
    · have HSD := Lib.hid (show (decide (n0 ≤ 40) && decide (n1 ≤ 120)) = false by
        rw [Bool.and_eq_false_iff]
        by_cases h : n0 ≤ 40
        · exact .inr (decide_eq_false fun h2 => hsm ⟨h, h2⟩)
        · exact .inl (decide_eq_false h))
      clear hsm hsmall
      go_wp2_with (first
        | (go_at_call 27; refine (fit15 _).mono ?_; rintro e w1 ⟨rfl, hC⟩; have hs1 := HS0.out.same hC; have p0 := (hs1.blk 0 rfl).cell 0; have p1 := (hs1.blk 0 rfl).cell 1; simp only [List.getElem?_toArray, List.getElem?_cons_zero, List.getElem?_cons_succ] at p0 p1; have HS1 := Lib.hid hs1; clear hC hs1 HS0)
        | (go_at_call 13; refine (Small11 _ A0 n0 c0 A1 n1 c1).mono ?_; rw [HSD.out]; rintro e w2 ⟨rfl, hC⟩; have HS2 := Lib.hid (HS1.out.same hC); clear hC HS1))
      go_ret
      exact ⟨rfl, HS2.out.below⟩
end Go.Proofs.Ytbcabjpafeocgaa
