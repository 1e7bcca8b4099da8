/-
  The model that layer 3's statements keep beside the arena: begin, nth, take. Conditions: the arena is as it always is.
-/
import Derived.Test.YtapbphbnffggnaaModel
namespace Go.Proofs.Ytapbphbnffggnaa
set_option linter.unusedVariables false
set_option linter.unusedSimpArgs false
open Go.RowKit Go.Shelf

section
variable {w0 w : World} {L : List Res} {i m : Nat} {A : AR}

set_option maxHeartbeats 1000000 in
theorem MBegin (S : Sep w0 w L) (n : Nat) (hn : n ≤ 64) (ids : Nat × Nat × Nat) : Calls Try.prog 29 #[.int .i64 (n : Int)] w fun e w' => ∃ m, e = .returned (.pointer (some ⟨m, 0, none⟩)) ∧ Sep w0 w' (modelR m (AR.new n ids) :: L) := by
  have hmm := @run_makeMap Try.prog
  have hS := S.newMap Try.prog 51 26 3 .i64 .i64
  have hS2 := (hS.alloc (.cells #[.slice none 0 0, .map (some w.heap.size)] 53)).nilRow 3 1
  rw [World.size_alloc] at hS2
  have HS := Lib.hid (hS2.front 3 [1, 0, 2])
  clear S hS hS2
  go_enter Try.func29, Try.ntmps29
  go_wp2_with fail
  obtain ⟨tb, htb⟩ : ∃ tb, w.heap.size = tb := ⟨_, rfl⟩
  rw [htb] at HS ⊢
  clear hmm htb
  go_loopw [8] (fun i wr => ∃ (k : Nat) (v : Value), k ≤ n ∧ i = .int .i64 k ∧ Sep w0 wr (blkR (tb + 1) 53 #[v, .map (some tb)] :: rowR 3 1 v k (List.replicate k (.int .i64 (-1))) :: mapR Try.prog 51 26 3 .i64 .i64 tb 0 (fun _ => none) :: L)) (fun i _ => n - (intOf i).toNat)
  case atStart => exact ⟨0, _, by omega, rfl, HS.out⟩
  case round =>
    obtain ⟨k, v, hk, rfl, hS⟩ := hrel
    clear HS
    by_cases hlt : k < n
    · obtain ⟨AA, cap, rfl, hcap, hcm⟩ := hS.rowShape 1 rfl
      have hc0 := (hS.blk 0 rfl).cell 0
      simp only [List.getElem?_toArray, List.getElem?_cons_zero] at hc0
      have hlt0 := (hS.blk 0 rfl).lt
      have ha0 : ∀ o, (wr.alloc o).cell? ⟨tb + 1, 0, none⟩ = some (.slice AA k cap) := fun o => (World.cell?_alloc_past _ _ _ hlt0).trans hc0
      have HS := Lib.hid hS
      have HLT := Lib.hid hlt
      clear hS hlt0
      unfold maxLen at hcm
      go_wp2_with (at_builtin; refine wpList_append_sep rfl _ _ 50 rfl 3 (.int .i64 0) 1 8 Try.underlying50 intInfo rfl (by decide) HS.out 1 rfl rfl [.int .i64 (-1)] rfl (by simp [Value.oneCell']) rfl (by unfold maxLen; omega) (by omega) ?_; intro g4 cap4 w4 hcap4 hcm4 hs4; have hd0 := (hs4.blk 0 rfl).cell 0; have hf0 := (hs4.blk 0 rfl).frozen 0; simp only [List.getElem?_toArray, List.getElem?_cons_zero] at hd0; have HS4 := Lib.hid hs4; clear hs4)
      go_roundw
      case rel =>
        refine ⟨k + 1, .slice (some ⟨g4, 0, none⟩) (k + 1) cap4, HLT.out, by go_num, ?_⟩
        have h5 := HS4.out.setCell 0 rfl 0 (.slice (some ⟨g4, 0, none⟩) (k + 1) cap4)
        simp only [List.set_cons_succ, List.set_cons_zero, List.replicate_succ'] at h5 ⊢
        exact h5
      case measure => have := HLT.out; simp [intOf]; omega
    · obtain rfl : k = n := by omega
      have HS := Lib.hid hS
      clear hS
      go_wp2_with fail
      go_ret
      refine ⟨tb + 1, rfl, model_shutHead (v := v) (tb := tb) ?_⟩
      have e1 : (AR.new k ids).clsL = List.replicate k (.int .i64 (-1)) := by
        unfold AR.clsL AR.new
        apply List.ext_getElem?
        intro j
        by_cases hj : j < k
        · simp [hj]
        · simp [hj]
      show Sep w0 _ (blkR _ _ _ :: rowR _ 1 _ k (AR.new k ids).clsL :: mapR _ _ _ _ _ _ _ (AR.new k ids).total.toNat (AR.new k ids).mdl :: L)
      rw [e1, total_new, mdl_new]
      exact HS.out

set_option maxHeartbeats 1000000 in
theorem MNth (S : Sep w0 w L) (i : Nat) (hi : L[i]? = some (modelR m A)) (hw : A.Wf) (num : Int) : Calls Try.prog 30 #[.pointer (some ⟨m, 0, none⟩), .int .i64 num] w fun e w' => e = .returned (.int .i64 (A.nth num)) ∧ Sep w0 w' L := by
  obtain ⟨v, tb, hS⟩ := model_open S i hi
  simp only [modelParts, List.cons_append, List.nil_append] at hS
  obtain ⟨AA, cap, rfl, hcap, hcm⟩ := hS.rowShape 1 rfl
  have HI := Lib.hid hi
  have hfew := hw.few
  have HW := Lib.hid hw
  have hand := and_65535 num
  obtain ⟨T, hT⟩ : ∃ T : Nat, num % 65536 = (T : Int) := ⟨(num % 65536).toNat, by omega⟩
  have hmul : IntKind.i64.wrap (32 * (A.n : Int)) = 32 * (A.n : Int) := by rw [IntKind.wrap_i64]; omega
  have HS := Lib.hid (hS.nilRow 26 1)
  have HNTH := Lib.hid (show A.nth num = match (elems (A.n * 32 + 1) A.tk)[T % (elems (A.n * 32 + 1) A.tk).length]? with | some r => (r : Int) | none => 0 by unfold AR.nth; rw [hT]; rfl)
  rw [hT] at hand
  clear S hi hS hw hT
  unfold maxLen at hcm
  go_enter Try.func30, Try.ntmps30
  go_wp2_with fail
  go_loopw [5, 6] (fun v ii wr => ∃ (k : Nat), 1 ≤ k ∧ k ≤ A.n * 32 + 1 ∧ ii = .int .i64 k ∧ Sep w0 wr (rowR 26 1 v (elems k A.tk).length ((elems k A.tk).map fun r => Value.int .i64 ((r : Nat) : Int)) :: blkR m 53 #[.slice AA A.n cap, .map (some tb)] :: rowR 3 1 (.slice AA A.n cap) A.n A.clsL :: mapR Try.prog 51 26 3 .i64 .i64 tb A.total.toNat A.mdl :: L.eraseIdx i)) (fun _ i _ => A.n * 32 + 2 - (intOf i).toNat)
  case atStart =>
    refine ⟨1, by omega, by omega, rfl, ?_⟩
    have e : elems 1 A.tk = [] := by
      rw [elems_succ]
      have : A.tk 0 = false := by
        cases h : A.tk 0
        · rfl
        · have := (HW.out.lt h).1; omega
      rw [this]
      rfl
    rw [e]
    exact HS.out
  case round =>
    obtain ⟨k, hk1, hk, rfl, hS⟩ := hrel
    clear HS
    obtain ⟨A2, cap2, rfl, hcap2, hcm2⟩ := hS.rowShape 0 rfl
    have hel : (elems k A.tk).length ≤ k := by
      have := List.length_filter_le A.tk (List.range k)
      simpa [elems] using this
    have hc0 := (hS.blk 1 rfl).cell 0
    have hc1 := (hS.blk 1 rfl).cell 1
    simp only [List.getElem?_toArray, List.getElem?_cons_zero, List.getElem?_cons_succ] at hc0 hc1
    unfold maxLen at hcm2
    by_cases hle : k ≤ A.n * 32
    · have hleI : (k : Int) ≤ 32 * (A.n : Int) := by omega
      have hlk := map_look refIntOk hS 3 rfl (x := (k : Int)) (wf_of (by omega) (by omega))
      rw [mdl_some, HW.out.has] at hlk
      generalize (A.mdl (k : Int)).getD 0 = z at hlk
      have HS := Lib.hid hS
      have HLE := Lib.hid hle
      have hsucc := elems_succ k A.tk
      cases htk : A.tk k with
      | false =>
        rw [htk] at hlk hsucc
        simp at hsucc
        have HSU := Lib.hid hsucc
        clear hS hsucc htk
        go_wp2_with (at_lookup; refine wpList_lookup_run rfl _ _ _ _ rfl rfl rfl hlk ?_)
        go_roundw
        case rel => exact ⟨k + 1, by omega, by have := HLE.out; omega, by go_num, by rw [HSU.out]; exact HS.out⟩
        case measure => have := HLE.out; simp [intOf]; omega
      | true =>
        rw [htk] at hlk hsucc
        simp at hsucc
        have HSU := Lib.hid hsucc
        clear hS hsucc htk
        go_wp2_with (first | (at_lookup; refine wpList_lookup_run rfl _ _ _ _ rfl rfl rfl hlk ?_) | (at_builtin; refine wpList_append_sep rfl _ _ 32 rfl 26 (.int .i64 0) 1 8 Try.underlying32 refInfo rfl (by decide) HS.out 0 rfl rfl [.int .i64 (k : Int)] rfl (by simp [Value.oneCell']) rfl (by unfold maxLen; omega) (by omega) ?_; intro g4 cap4 w4 hcap4 hcm4 hs4; have HS4 := Lib.hid hs4; clear hs4))
        go_roundw
        case rel =>
          refine ⟨k + 1, by omega, by have := HLE.out; omega, by go_num, ?_⟩
          rw [HSU.out]
          simpa using HS4.out
        case measure => have := HLE.out; simp [intOf]; omega
    · obtain rfl : k = A.n * 32 + 1 := by omega
      have hgt : ¬ ((A.n * 32 + 1 : Nat) : Int) ≤ 32 * (A.n : Int) := by omega
      obtain ⟨E, hE⟩ : ∃ E, elems (A.n * 32 + 1) A.tk = E := ⟨_, rfl⟩
      rw [hE] at hS hel HNTH hcap2
      rw [hE]
      have hback : Sep w0 wr L := by
        have h1 := hS.tail
        have h2 : Sep w0 wr (modelParts m tb (.slice AA A.n cap) A ++ L.eraseIdx i) := h1
        have h3 := model_shut h2 HI.out
        rw [set_self HI.out] at h3
        exact h3
      have HB := Lib.hid hback
      have HE := Lib.hid hE
      obtain ⟨Ln, hLn⟩ : ∃ Ln, E.length = Ln := ⟨_, rfl⟩
      rw [hLn] at hS hel HNTH hcap2
      rw [hLn]
      have HLN := Lib.hid hLn
      obtain ⟨Q, hQ⟩ : ∃ Q, A.n * 32 + 1 = Q := ⟨_, rfl⟩
      rw [hQ] at hgt hk1 hk hel ⊢
      clear hback hE hLn hQ
      by_cases h0 : Ln = 0
      · subst h0
        have hnil : E = [] := List.length_eq_zero_iff.1 HLN.out
        subst hnil
        clear hS
        go_wp2_with fail
        go_ret
        exact ⟨by rw [HNTH.out]; rfl, HB.out⟩
      · obtain ⟨g, cap', hsl, _, _⟩ := hS.rowSome 0 rfl (by omega)
        simp only [Value.slice.injEq] at hsl
        obtain ⟨rfl, -, rfl⟩ := hsl
        obtain ⟨mm, hmm⟩ : ∃ mm, T % Ln = mm := ⟨_, rfl⟩
        have hmod : mm < Ln := by rw [← hmm]; exact Nat.mod_lt _ (by omega)
        rw [hmm] at HNTH
        obtain ⟨r, hr⟩ : ∃ r, E[mm]? = some r := ⟨_, List.getElem?_eq_getElem (by rw [HLN.out]; exact hmod)⟩
        rw [hr] at HNTH
        have hcr := hS.rowCell 0 rfl mm (.int .i64 ((r : Nat) : Int)) (by rw [List.getElem?_map, hr]; rfl)
        have hrem : (T : Int).tmod (Ln : Int) = (mm : Int) := by
          rw [Int.tmod_eq_emod_of_nonneg (by omega), ← hmm]
          simp
        have hne0 : ((Ln : Int) == 0) = false := by simpa using h0
        have hmI : (mm : Int) < (Ln : Int) := by omega
        have hm0 : (0 : Int) ≤ (mm : Int) := by omega
        clear hS hmm hr
        go_wp2_with fail
        go_ret
        exact ⟨by rw [HNTH.out]; rfl, HB.out⟩
end
end Go.Proofs.Ytapbphbnffggnaa
