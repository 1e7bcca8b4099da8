/-
  The model that layer 3's statements keep beside the arena: contracts of its methods. Conditions: the arena is as it always is.
-/
import Derived.Test.YtapbphbnffggnaaModelP
import Derived.Test.YtapbphbnffggnaaInfo
import Derived.Test.YtapbphbnffggnaaBits
import Derived.Test.YtapbphbnffggnaaArenaWord
namespace Go.Proofs.Ytapbphbnffggnaa
set_option linter.unusedVariables false
set_option linter.unusedSimpArgs false
open Go.RowKit Go.Shelf

theorem intInfo : (Try.prog.info? 3).map (fun i => (i.zero, i.size, i.bytes)) = some (some (.int .i64 0), 1, 8) := by kernel_rfl
theorem refIntOk : MapOk Try.prog 51 26 3 .i64 .i64 :=
  ⟨Try.underlying51, Try.underlying26, Try.underlying3, fun w => by kernel_rfl⟩
theorem wf_of {x : Int} (h0 : -9223372036854775808 ≤ x) (h1 : x ≤ 9223372036854775807) : (Lit.int .i64 x).wf = true := by
  simp only [Lit.wf, Bool.and_eq_true, decide_eq_true_eq]
  rw [show IntKind.i64.min = -9223372036854775808 from by decide, show IntKind.i64.max = 9223372036854775807 from by decide]
  exact ⟨h0, h1⟩

def modelParts (m tb : Nat) (v : Value) (A : AR) : List Res :=
  [blkR m 53 #[v, .map (some tb)], rowR 3 1 v A.n A.clsL, mapR Try.prog 51 26 3 .i64 .i64 tb A.total.toNat A.mdl]
def modelR (m : Nat) (A : AR) : Res := exR fun (v : Value) => exR fun (tb : Nat) => starR (modelParts m tb v A)

section
variable {w0 w : World} {L : List Res} {i m : Nat} {A : AR}

theorem model_open (S : Sep w0 w L) (i : Nat) (hi : L[i]? = some (modelR m A)) : ∃ v tb, Sep w0 w (modelParts m tb v A ++ L.eraseIdx i) := by
  obtain ⟨v, h1⟩ := (S.lift i hi).unex 0 rfl
  obtain ⟨tb, h2⟩ := h1.unex 0 rfl
  exact ⟨v, tb, h2.openHead⟩
theorem model_shutHead {R : List Res} {tb : Nat} {v : Value} (S : Sep w0 w (modelParts m tb v A ++ R)) : Sep w0 w (modelR m A :: R) :=
  S.shutHead.set_ (i := 0) (r' := modelR m A) rfl (fun F h => ⟨v, tb, h⟩)
theorem model_shut {r : Res} {tb : Nat} {v : Value} (S : Sep w0 w (modelParts m tb v A ++ L.eraseIdx i)) (hi : L[i]? = some r) : Sep w0 w (L.set i (modelR m A)) := (model_shutHead S).perm (perm_set hi)

theorem MFree (S : Sep w0 w L) (i : Nat) (hi : L[i]? = some (modelR m A)) (hw : A.Wf) : Calls Try.prog 34 #[.pointer (some ⟨m, 0, none⟩)] w fun e w' => e = .returned (.int .i64 A.free) ∧ w = w' := by
  obtain ⟨v, tb, hS⟩ := model_open S i hi
  simp only [modelParts, List.cons_append, List.nil_append] at hS
  obtain ⟨AA, cap, rfl, hcap, hcm⟩ := hS.rowShape 1 rfl
  have HS := Lib.hid hS
  have hc0 := (hS.blk 0 rfl).cell 0
  simp only [List.getElem?_toArray, List.getElem?_cons_zero] at hc0
  have HF := Lib.hid hw.free
  have hfew := hw.few
  have hcell : ∀ k, k < A.n → ∃ g, AA = some ⟨g, 0, none⟩ ∧ w.cell? ⟨g, k, none⟩ = some (.int .i64 (A.cls k)) := by
    intro k hk
    obtain ⟨g, cap', hsl, _, _⟩ := hS.rowSome 1 rfl (by omega)
    simp only [Value.slice.injEq] at hsl
    obtain ⟨rfl, _, rfl⟩ := hsl
    exact ⟨g, rfl, hS.rowCell 1 rfl k _ (clsL_get hk)⟩
  have HCELL := Lib.hid hcell
  clear S hi hw hS hcell
  unfold maxLen at hcm
  go_enter Try.func34, Try.ntmps34
  go_wp2_with fail
  go_loop [3, 11] (fun s i => ∃ k : Nat, k ≤ A.n ∧ i = .int .i64 k ∧ s = .int .i64 (((List.range k).countP fun p => decide (A.cls p < 0) : Nat) : Int)) (fun _ i => A.n + 1 - (intOf i).toNat)
  case atStart => exact ⟨0, by omega, rfl, rfl⟩
  case round =>
    obtain ⟨k, hk, rfl, rfl⟩ := hrel
    have hcl : (List.range k).countP (fun p => decide (A.cls p < 0)) ≤ k := by
      have := List.countP_le_length (p := fun p => decide (A.cls p < 0)) (l := List.range k)
      simpa using this
    by_cases hlt : k < A.n
    · obtain ⟨g, rfl, hck⟩ := HCELL.out k hlt
      have HLT := Lib.hid hlt
      have hsucc : (List.range (k + 1)).countP (fun p => decide (A.cls p < 0)) = (List.range k).countP (fun p => decide (A.cls p < 0)) + if A.cls k < 0 then 1 else 0 := by
        rw [List.range_succ, List.countP_append]
        simp [List.countP_cons]
      have HSU := Lib.hid hsucc
      clear hsucc
      by_cases hneg : A.cls k < 0
      · rw [if_pos hneg] at HSU
        go_wp2_with fail
        go_round
        case rel => exact ⟨k + 1, HLT.out, by go_num, by rw [HSU.out]; go_num⟩
        case measure => have := HLT.out; simp [intOf]; omega
      · rw [if_neg hneg] at HSU
        have hge : 0 ≤ A.cls k := by omega
        go_wp2_with fail
        go_round
        case rel => exact ⟨k + 1, HLT.out, by go_num, by rw [HSU.out]; rfl⟩
        case measure => have := HLT.out; simp [intOf]; omega
    · obtain rfl : k = A.n := by omega
      go_wp2_with fail
      go_ret
      exact ⟨by rw [HF.out]; rfl, rfl⟩

set_option maxRecDepth 100000 in
set_option maxHeartbeats 1000000 in
theorem MGive (S : Sep w0 w L) (i : Nat) (hi : L[i]? = some (modelR m A)) (hw : A.Wf) (r : Int) (hr : (Lit.int .i64 r).wf = true) : Calls Try.prog 31 #[.pointer (some ⟨m, 0, none⟩), .int .i64 r] w fun e w' => e = .returned (.bool (A.has r)) ∧ Sep w0 w' (L.set i (modelR m (A.give r))) := by
  obtain ⟨v, tb, hS⟩ := model_open S i hi
  simp only [modelParts, List.cons_append, List.nil_append] at hS
  have hc1 := (hS.blk 0 rfl).cell 1
  simp only [List.getElem?_toArray, List.getElem?_cons_succ, List.getElem?_cons_zero] at hc1
  have hlk := map_look refIntOk hS 2 rfl hr
  rw [mdl_some] at hlk
  have HI := Lib.hid hi
  cases hh : A.has r with
  | false =>
    rw [hh] at hlk
    rw [give_no hh, set_self hi]
    have HS := Lib.hid S
    clear S hi hS hw hh
    generalize (A.mdl r).getD 0 = z at hlk
    go_enter Try.func31, Try.ntmps31
    go_wp2_with (at_lookup; refine wpList_lookup_run rfl _ _ _ _ rfl rfl rfl hlk ?_)
    go_ret
    exact ⟨rfl, HS.out⟩
  | true =>
    rw [hh] at hlk
    obtain ⟨R, rfl, htk⟩ := has_nat hw hh
    obtain ⟨w1, hdel, hS1⟩ := map_del refIntOk hS 2 rfl hr
    obtain ⟨AA, cap, rfl, hcap, hcm⟩ := hS1.rowShape 1 rfl
    have hat := hw.at_ htk
    obtain ⟨p, -, hp, -, -, -, -, -, -, hdiv⟩ := hat
    have hpf := hw.few
    have hRlt := (hw.lt htk).2.1
    have hR1 := (hw.lt htk).1
    have hmdl := hw.give_mdl htk
    have htot := hw.give_total htk
    have htn := hw.total_nonneg
    have hcls := hw.give_clsL htk
    have hal := hw.alone htk
    have hwf := hw.give_wf (R : Int)
    rw [hdiv] at hal hcls
    have hc1' := (hS1.blk 0 rfl).cell 1
    have hc0' := (hS1.blk 0 rfl).cell 0
    simp only [List.getElem?_toArray, List.getElem?_cons_succ, List.getElem?_cons_zero] at hc1' hc0'
    obtain ⟨w2, hrange, hS2⟩ := map_range refIntOk hS1 2 rfl
    simp only [List.set_cons_succ, List.set_cons_zero] at hS2
    rw [show (A.mdl (R : Int)).isSome = true by rw [mdl_some]; exact hh, ← hmdl] at hS2
    simp only [if_true] at hS2
    have hcnt : A.total.toNat - 1 = (A.give (R : Int)).total.toNat := by rw [htot]; omega
    rw [hcnt] at hS2
    have hsub : IntKind.i64.wrap ((R : Int) - 1) = (R : Int) - 1 := by rw [IntKind.wrap_i64]; omega
    have hquo : ((R : Int) - 1) / 32 = (p : Int) := by omega
    have hnn : 0 ≤ (R : Int) - 1 := by omega
    have HS2 := Lib.hid hS2
    have HAL := Lib.hid hal
    have HCLS := Lib.hid hcls
    have HWF := Lib.hid hwf
    have HMDL := Lib.hid (fun x (hx : (A.give (R : Int)).has x = true) => has_nat hwf hx)
    have HP := Lib.hid hp
    have HN := Lib.hid (give_n A (R : Int))
    unfold maxLen at hcm
    clear S hi hS hw hh hS1 hmdl htot htn hcls hal hwf hdiv hS2 hcnt htk hRlt hR1 hr
    generalize (A.mdl (R : Int)).getD 0 = z at hlk
    go_enter Try.func31, Try.ntmps31
    go_wp2_with (first | (at_lookup; refine wpList_lookup_run rfl _ _ _ _ rfl rfl rfl hlk ?_) | (at_delete; refine wpList_delete_run rfl _ _ _ _ rfl rfl rfl hdel ?_) | (at_range; refine wpList_range_run rfl _ _ rfl rfl hrange ?_))
    go_frame
    simp only [hquo]
    go_loopw [] (fun wr => ∃ (left : Int → Bool) (mm : Nat), (∀ x : Nat, (A.give (R : Int)).tk x = true → left (x : Int) = false → (x - 1) / 32 ≠ p) ∧ Sep w0 wr (blkR m 53 #[.slice AA A.n cap, .map (some tb)] :: rowR 3 1 (.slice AA A.n cap) A.n A.clsL :: rangeR Try.prog 51 26 3 .i64 .i64 tb w1.heap.size (A.give (R : Int)).total.toNat (A.give (R : Int)).mdl left mm :: L.eraseIdx i)) (fun wr => wr.rangeLeft tb w1.heap.size)
    case atStart => exact ⟨_, _, fun x hx hl => (by rw [mdl_some, HWF.out.has, hx] at hl; cases hl), HS2.out⟩
    case round =>
      obtain ⟨left, mm, hleft, hS3⟩ := hrel
      clear HS2
      have hme := rangeLeft_eq hS3 2 rfl
      rcases map_next refIntOk hS3 2 rfl with ⟨hdone, hnx⟩ | ⟨x, c, w3, m', hxw, hlx, hMx, hnx, hlt, hen, hS4⟩
      · have hS4 := range_end hS3 2 rfl
        simp only [List.set_cons_succ, List.set_cons_zero] at hS4
        have hone : A.cnt p = 1 := HAL.out.2 (fun y hy => hleft y hy (hdone y (by
          have := HWF.out.lt hy
          have := HWF.out.few
          exact wf_of (by omega) (by omega))))
        obtain ⟨g, cap', hsl, _, _⟩ := hS4.rowSome 1 rfl (by have := HP.out; omega)
        simp only [Value.slice.injEq] at hsl
        obtain ⟨rfl, _, rfl⟩ := hsl
        have hck := hS4.rowCell 1 rfl p _ (clsL_get HP.out)
        have hcf := hS4.rowFree 1 rfl p
        have hcw := (hS4.blk 0 rfl).cell 0
        simp only [List.getElem?_toArray, List.getElem?_cons_zero] at hcw
        have hpn : (p : Int) < (A.n : Int) := by have := HP.out; omega
        have hp0 : (0 : Int) ≤ (p : Int) := by omega
        have HS4 := Lib.hid hS4
        have HONE := Lib.hid hone
        clear hS3 hS4 hleft hdone hone hme
        go_wp2_with (at_next; refine wpList_next_run rfl _ rfl rfl hnx ?_)
        go_ret
        refine ⟨rfl, ?_⟩
        have hS5 := HS4.out.rowSet 1 rfl p (.int .i64 (-1))
        simp only [List.set_cons_succ, List.set_cons_zero] at hS5
        refine model_shut (v := .slice (some ⟨g, 0, none⟩) A.n cap) (tb := tb) ?_ HI.out
        have e1 := HCLS.out
        rw [if_pos HONE.out] at e1
        show Sep w0 _ (blkR m _ _ :: rowR _ 1 _ (A.give (R : Int)).n (A.give (R : Int)).clsL :: _)
        rw [e1, HN.out]
        exact hS5
      · have hhas : (A.give (R : Int)).has x = true := by rw [← mdl_some, hMx]; rfl
        obtain ⟨X, rfl, htX⟩ := HMDL.out x hhas
        simp only [List.set_cons_succ, List.set_cons_zero] at hS4
        have hX := HWF.out.lt htX
        have hXf := HWF.out.few
        have hsub2 : IntKind.i64.wrap ((X : Int) - 1) = (X : Int) - 1 := by rw [IntKind.wrap_i64]; omega
        have hnn2 : 0 ≤ (X : Int) - 1 := by omega
        have hXb : (X : Int) - 1 ≤ 5000 := by omega
        have hXc : (X : Int) ≤ 5000 := by omega
        by_cases hpx : (X - 1) / 32 = p
        · have hquo2 : ((X : Int) - 1) / 32 = (p : Int) := by omega
          have hne1 : ¬ A.cnt p = 1 := fun h => HAL.out.1 h X htX hpx
          have hS5 := range_end hS4 2 rfl
          simp only [List.set_cons_succ, List.set_cons_zero] at hS5
          have HS5 := Lib.hid hS5
          have HNE1 := Lib.hid hne1
          clear hS3 hS4 hS5 hleft hme hpx hne1 hX htX hhas hMx hlx
          go_wp2_with (at_next; refine wpList_next_run rfl _ rfl rfl hnx ?_)
          go_ret
          refine ⟨rfl, ?_⟩
          refine model_shut (v := .slice AA A.n cap) (tb := tb) ?_ HI.out
          have e1 := HCLS.out
          rw [if_neg HNE1.out] at e1
          show Sep w0 _ (blkR m _ _ :: rowR _ 1 _ (A.give (R : Int)).n (A.give (R : Int)).clsL :: _)
          rw [e1, HN.out]
          exact HS5.out
        · have hquo2 : (((X : Int) - 1) / 32 == (p : Int)) = false := by simp; omega
          have HS4 := Lib.hid hS4
          have HLEFT := Lib.hid hleft
          have HPX := Lib.hid hpx
          have HLT := Lib.hid hlt
          have HME := Lib.hid hme
          clear hS3 hS4 hleft hpx hX htX hhas hMx hlx hlt hme
          go_wp2_with (at_next; refine wpList_next_run rfl _ rfl rfl hnx ?_)
          go_roundw
          case rel =>
            refine ⟨_, _, ?_, HS4.out⟩
            intro y hy hl
            simp at hl
            by_cases hyX : (y : Int) = (X : Int)
            · obtain rfl : y = X := by omega
              exact HPX.out
            · refine HLEFT.out y hy ?_
              cases h : left (y : Int)
              · rfl
              · exact absurd (hl h) hyX
          case measure => rw [rangeLeft_eq HS4.out 2 rfl, HME.out]; exact HLT.out
end
end Go.Proofs.Ytapbphbnffggnaa
