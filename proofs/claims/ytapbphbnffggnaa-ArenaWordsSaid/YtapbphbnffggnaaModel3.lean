/-
  The model that layer 3's statements keep beside the arena: take. Conditions: the arena is as it always is.
-/
import Derived.Test.YtapbphbnffggnaaModel2
namespace Go.Proofs.Ytapbphbnffggnaa
set_option linter.unusedVariables false
set_option linter.unusedSimpArgs false
open Go.RowKit Go.Shelf

/-- Is page q looked at in turn u? -/
def looked (A : AR) (c : Int) (u q : Nat) : Prop := u = 0 ∧ A.cls q = c ∨ u = 1 ∧ A.cls q = -1
/-- Where the model's search ends: in turn t, at page p, cell k; t = 2: nowhere. -/
structure Target (A : AR) (c : Int) (t p k : Nat) : Prop where
  le : t ≤ 2
  before : ∀ u q j, q < A.n → looked A c u q → j < cN c → (u < t ∨ u = t ∧ (q < p ∨ q = p ∧ j < k)) → A.tk (refN q c j) = true
  here : t < 2 → p < A.n ∧ looked A c t p ∧ k < cN c ∧ A.tk (refN p c k) = false

theorem AR.Wf.target {A : AR} (h : A.Wf) {c : Int} (hc : 0 < cN c) : ∃ t p k, Target A c t p k ∧ (t = 2 ∧ A.take c = none ∨ t < 2 ∧ ∃ B, A.take c = some (refN p c k, B) ∧ TakeIs A c (refN p c k) B p k) := by
  have hc0 : 0 ≤ c := by rcases class_nat c hc with ⟨rfl, _⟩ | ⟨rfl, _⟩ | ⟨rfl, _⟩ <;> omega
  cases ht : A.take c with
  | none =>
    refine ⟨2, 0, 0, ⟨by omega, ?_, by omega⟩, .inl ⟨rfl, rfl⟩⟩
    rcases h.take_none ht with e | ⟨h1, h2⟩
    · omega
    · rintro u q j hq (⟨_, hl⟩ | ⟨_, hl⟩) hj _
      · exact h2 q j hq hl hj
      · have := h1 q hq; omega
  | some x =>
    obtain ⟨r, B⟩ := x
    obtain ⟨p, k, hti⟩ := h.take_spec ht
    have hr := hti.ref
    subst hr
    rcases hti.was with hw | hw
    · refine ⟨0, p, k, ⟨by omega, ?_, fun _ => ⟨hti.page, .inl ⟨rfl, hw⟩, hti.cell, hti.free⟩⟩, .inr ⟨by omega, B, rfl, hti⟩⟩
      rintro u q j hq (⟨rfl, hl⟩ | ⟨rfl, hl⟩) hj hlt
      · cases htk : A.tk (refN q c j)
        · exfalso
          rcases hti.least q j hq hl hj htk with (h1 | ⟨h1, h2⟩) | h1
          · simp at h1; omega
          · simp at h1 h2; omega
          · simp at h1; omega
        · rfl
      · omega
    · obtain ⟨rfl, h1, h2⟩ := hti.fresh hw
      refine ⟨1, p, 0, ⟨by omega, ?_, fun _ => ⟨hti.page, .inr ⟨rfl, hw⟩, hti.cell, hti.free⟩⟩, .inr ⟨by omega, B, rfl, hti⟩⟩
      rintro u q j hq (⟨rfl, hl⟩ | ⟨rfl, hl⟩) hj hlt
      · exact h2 q j hq hl hj
      · have := h1 q (by omega)
        omega

section
variable {w0 w : World} {L : List Res} {i m : Nat} {A : AR}

theorem MTakeOut (S : Sep w0 w L) (i : Nat) (hi : L[i]? = some (modelR m A)) (c : Int) (hc : c < 0 ∨ 2 < c) : Calls Try.prog 32 #[.pointer (some ⟨m, 0, none⟩), .int .i64 c] w fun e w' => e = .returned (takeV (A.take c)) ∧ Sep w0 w' (L.set i (modelR m (A.takeA c))) := by
  have ht : A.take c = none := by unfold AR.take; rw [if_pos (cN_out (by omega))]
  rw [takeA_none ht, ht, takeV_none, set_self hi]
  have HS := Lib.hid S
  clear ht S hi
  rcases hc with hc | hc
  · go_enter Try.func32, Try.ntmps32
    go_wp2_with fail
    go_ret2
    exact ⟨rfl, HS.out⟩
  · have h0 : ¬ c < 0 := by omega
    go_enter Try.func32, Try.ntmps32
    go_wp2_with fail
    go_ret2
    exact ⟨rfl, HS.out⟩

set_option maxRecDepth 100000 in
set_option maxHeartbeats 4000000 in
theorem MTake0 (S : Sep w0 w L) (i : Nat) (hi : L[i]? = some (modelR m A)) (hw : A.Wf) : Calls Try.prog 32 #[.pointer (some ⟨m, 0, none⟩), .int .i64 0] w fun e w' => e = .returned (takeV (A.take 0)) ∧ Sep w0 w' (L.set i (modelR m (A.takeA 0))) := by
  obtain ⟨t, p, k, htg, hout⟩ := hw.target (c := 0) (by decide)
  obtain ⟨v, tb, hS⟩ := model_open S i hi
  simp only [modelParts, List.cons_append, List.nil_append] at hS
  obtain ⟨AA, cap, rfl, hcap, hcm⟩ := hS.rowShape 1 rfl
  have hfew := hw.few
  have hc0 := (hS.blk 0 rfl).cell 0
  have hc1 := (hS.blk 0 rfl).cell 1
  simp only [List.getElem?_toArray, List.getElem?_cons_zero, List.getElem?_cons_succ] at hc0 hc1
  have ht2 := htg.le
  have HTG := Lib.hid htg
  have HOUT := Lib.hid hout
  have HS := Lib.hid hS
  have HI := Lib.hid hi
  have HW := Lib.hid hw
  have HREF : Hid (∀ q j, refN q 0 j = q * 32 + j * 2 + 1) := Lib.hid (fun _ _ => rfl)
  have HSS := Lib.hid S
  unfold maxLen at hcm
  clear htg hout hS hi hw S
  go_enter Try.func32, Try.ntmps32
  go_wp2_with fail
  go_loop [19] (fun s => ∃ u : Nat, u ≤ t ∧ s = .int .i64 u) (fun s => 3 - (intOf s).toNat)
  case atStart => exact ⟨0, by omega, rfl⟩
  case round =>
    obtain ⟨u, hu, rfl⟩ := hrel
    by_cases hu2 : u < 2
    · rcases (by omega : u = 0 ∨ u = 1) with rfl | rfl
      · go_wp2_with fail
        go_loop [27] (fun s => ∃ q : Nat, q ≤ A.n ∧ (0 < t ∨ q ≤ p) ∧ s = .int .i64 q) (fun s => A.n + 1 - (intOf s).toNat)
        case atStart => exact ⟨0, by omega, .inr (by omega), rfl⟩
        case round =>
          obtain ⟨q, hq, hqp, rfl⟩ := hrel
          have HQP := Lib.hid hqp
          clear hqp
          by_cases hqn : q < A.n
          · obtain ⟨g, cap', hsl, _, _⟩ := HS.out.rowSome 1 rfl (by omega)
            simp only [Value.slice.injEq] at hsl
            obtain ⟨rfl, -, rfl⟩ := hsl
            have hck := HS.out.rowCell 1 rfl q _ (clsL_get hqn)
            have hq0 : (0 : Int) ≤ (q : Int) := by omega
            have hqI : (q : Int) < (A.n : Int) := by omega
            have HQN := Lib.hid hqn
            by_cases hlook : A.cls q = 0
            · have HLK : Hid (looked A 0 0 q) := Lib.hid (.inl ⟨rfl, hlook⟩)
              rw [hlook] at hck
              clear hlook hqn
              go_wp2_with fail
              go_loop [49] (fun s => ∃ j : Nat, j ≤ 16 ∧ Hid (0 < t ∨ q < p ∨ j ≤ k) ∧ s = .int .i64 j) (fun s => 17 - (intOf s).toNat)
              case atStart => exact ⟨0, by omega, Lib.hid (.inr (.inr (by omega))), rfl⟩
              case round =>
                obtain ⟨j, hj, HJK, rfl⟩ := hrel
                by_cases hjC : j < 16
                · have hj0 : (0 : Int) ≤ (j : Int) := by omega
                  have hRR : 32 * (q : Int) + (j : Int) * 2 + 1 = ((refN q 0 j : Nat) : Int) := by rw [HREF.out]; omega
                  have hwf : (Lit.int .i64 (32 * (q : Int) + (j : Int) * 2 + 1)).wf = true := wf_of (by omega) (by omega)
                  have hlk := map_look refIntOk HS.out 2 rfl hwf
                  rw [mdl_some, hRR, HW.out.has] at hlk
                  rw [← hRR] at hlk
                  generalize (A.mdl (32 * (q : Int) + (j : Int) * 2 + 1)).getD 0 = z at hlk
                  by_cases hex : 0 = t ∧ q = p ∧ j = k
                  · obtain ⟨rfl, rfl, rfl⟩ := hex
                    obtain ⟨_, _, _, hfree⟩ := HTG.out.here (by omega)
                    rw [hfree] at hlk
                    have hcf := HS.out.rowFree 1 rfl q
                    have hS1 := HS.out.rowSet 1 rfl q (.int .i64 0)
                    simp only [List.set_cons_succ, List.set_cons_zero] at hS1
                    obtain ⟨w2, hput, hS2⟩ := map_put refIntOk hS1 2 rfl (by have := HW.out.total_small; unfold maxLen; omega) hwf (c := 0) (by decide)
                    simp only [List.set_cons_succ, List.set_cons_zero] at hS2
                    have hd1 := (hS1.blk 0 rfl).cell 1
                    simp only [List.getElem?_toArray, List.getElem?_cons_zero, List.getElem?_cons_succ] at hd1
                    have HRR := Lib.hid hRR
                    have HFREE := Lib.hid hfree
                    have HS2 := Lib.hid hS2
                    clear hRR hfree hS1 hS2 hwf hu2 hu ht2
                    go_wp2_with (first | (at_lookup; refine wpList_lookup_run rfl _ _ _ _ rfl rfl rfl hlk ?_) | (at_mapUpdate; refine wpList_mapUpdate_run rfl _ _ _ _ rfl rfl rfl rfl hput ?_))
                    go_ret2
                    obtain ⟨B, hB, hti⟩ : ∃ B, A.take 0 = some (refN q 0 j, B) ∧ TakeIs A 0 (refN q 0 j) B q j := by
                      rcases HOUT.out with ⟨h, _⟩ | ⟨_, h⟩
                      · omega
                      · exact h
                    rw [takeA_some hB, hB, takeV_some, ← HRR.out]
                    refine ⟨rfl, model_shut (v := .slice (some ⟨g, 0, none⟩) A.n cap) (tb := tb) ?_ HI.out⟩
                    show Sep w0 _ (blkR _ _ _ :: rowR _ 1 _ B.n B.clsL :: mapR _ _ _ _ _ _ _ B.total.toNat B.mdl :: _)
                    have h1 := HS2.out
                    rw [mdl_some, HRR.out, HW.out.has, HFREE.out] at h1
                    simp only [Bool.false_eq_true, if_false] at h1
                    have htn := HW.out.total_nonneg
                    rw [hti.clsL, hti.n, hti.mdl HW.out, hti.total, show (A.total + 1).toNat = A.total.toNat + 1 by omega]
                    exact h1
                  · have htk : A.tk (refN q 0 j) = true := by
                      refine HTG.out.before 0 q j HQN.out HLK.out (show j < 16 from hjC) ?_
                      have h1 := HJK.out
                      have h2 := HQP.out
                      omega
                    rw [htk] at hlk
                    have HJC := Lib.hid hjC
                    have HEX := Lib.hid hex
                    clear hRR htk hwf hex
                    go_wp2_with (at_lookup; refine wpList_lookup_run rfl _ _ _ _ rfl rfl rfl hlk ?_)
                    go_round
                    case rel => exact ⟨j + 1, HJC.out, Lib.hid (by have h1 := HJK.out; have h2 := HEX.out; have h3 := HQP.out; omega), by go_num⟩
                    case measure => have := HJC.out; simp [intOf]; omega
                · obtain rfl : j = 16 := by omega
                  have hnext : 0 < t ∨ q + 1 ≤ p := by
                    rcases HJK.out with h | h | h
                    · exact .inl h
                    · exact .inr (by omega)
                    · rcases Nat.lt_or_ge 0 t with h2 | h2
                      · exact .inl h2
                      · exfalso
                        have h3 := (HTG.out.here (by omega)).2.2.1
                        have h4 : cN 0 = 16 := rfl
                        omega
                  have HNX := Lib.hid hnext
                  clear hnext hjC hj
                  go_wp2_with fail
                  go_round
                  case rel => exact ⟨q + 1, HQN.out, HNX.out, by go_num⟩
                  case measure => have := HQN.out; simp [intOf]; omega
            · have hne : (A.cls q != 0) = true := by simpa using hlook
              have hnext : 0 < t ∨ q + 1 ≤ p := by
                rcases HQP.out with h | h
                · exact .inl h
                · rcases Nat.lt_or_ge 0 t with h2 | h2
                  · exact .inl h2
                  · right
                    rcases Nat.lt_or_ge q p with h3 | h3
                    · exact h3
                    · exfalso
                      obtain rfl : q = p := by omega
                      obtain rfl : t = 0 := by omega
                      rcases (HTG.out.here (by omega)).2.1 with ⟨h4, h5⟩ | ⟨h4, h5⟩
                      · first | exact hlook h5 | omega
                      · first | exact hlook h5 | omega
              have HNX := Lib.hid hnext
              clear hnext hlook hqn
              go_wp2_with fail
              go_round
              case rel => exact ⟨q + 1, HQN.out, HNX.out, by go_num⟩
              case measure => have := HQN.out; simp [intOf]; omega
          · obtain rfl : q = A.n := by omega
            have hut : 0 + 1 ≤ t := by
              rcases HQP.out with h | h
              · exact h
              · rcases Nat.lt_or_ge 0 t with h2 | h2
                · exact h2
                · exfalso
                  have := (HTG.out.here (by omega)).1
                  omega
            have HUT := Lib.hid hut
            clear hut hqn hq
            go_wp2_with fail
            go_round
            case rel => exact ⟨0 + 1, HUT.out, by go_num⟩
            case measure => first | (simp [intOf]; done) | (simp [intOf]; omega)
      · go_wp2_with fail
        go_loop [27] (fun s => ∃ q : Nat, q ≤ A.n ∧ (1 < t ∨ q ≤ p) ∧ s = .int .i64 q) (fun s => A.n + 1 - (intOf s).toNat)
        case atStart => exact ⟨0, by omega, .inr (by omega), rfl⟩
        case round =>
          obtain ⟨q, hq, hqp, rfl⟩ := hrel
          have HQP := Lib.hid hqp
          clear hqp
          by_cases hqn : q < A.n
          · obtain ⟨g, cap', hsl, _, _⟩ := HS.out.rowSome 1 rfl (by omega)
            simp only [Value.slice.injEq] at hsl
            obtain ⟨rfl, -, rfl⟩ := hsl
            have hck := HS.out.rowCell 1 rfl q _ (clsL_get hqn)
            have hq0 : (0 : Int) ≤ (q : Int) := by omega
            have hqI : (q : Int) < (A.n : Int) := by omega
            have HQN := Lib.hid hqn
            by_cases hlook : A.cls q = -1
            · have HLK : Hid (looked A 0 1 q) := Lib.hid (.inr ⟨rfl, hlook⟩)
              rw [hlook] at hck
              clear hlook hqn
              go_wp2_with fail
              go_loop [49] (fun s => ∃ j : Nat, j ≤ 16 ∧ Hid (1 < t ∨ q < p ∨ j ≤ k) ∧ s = .int .i64 j) (fun s => 17 - (intOf s).toNat)
              case atStart => exact ⟨0, by omega, Lib.hid (.inr (.inr (by omega))), rfl⟩
              case round =>
                obtain ⟨j, hj, HJK, rfl⟩ := hrel
                by_cases hjC : j < 16
                · have hj0 : (0 : Int) ≤ (j : Int) := by omega
                  have hRR : 32 * (q : Int) + (j : Int) * 2 + 1 = ((refN q 0 j : Nat) : Int) := by rw [HREF.out]; omega
                  have hwf : (Lit.int .i64 (32 * (q : Int) + (j : Int) * 2 + 1)).wf = true := wf_of (by omega) (by omega)
                  have hlk := map_look refIntOk HS.out 2 rfl hwf
                  rw [mdl_some, hRR, HW.out.has] at hlk
                  rw [← hRR] at hlk
                  generalize (A.mdl (32 * (q : Int) + (j : Int) * 2 + 1)).getD 0 = z at hlk
                  by_cases hex : 1 = t ∧ q = p ∧ j = k
                  · obtain ⟨rfl, rfl, rfl⟩ := hex
                    obtain ⟨_, _, _, hfree⟩ := HTG.out.here (by omega)
                    rw [hfree] at hlk
                    have hcf := HS.out.rowFree 1 rfl q
                    have hS1 := HS.out.rowSet 1 rfl q (.int .i64 0)
                    simp only [List.set_cons_succ, List.set_cons_zero] at hS1
                    obtain ⟨w2, hput, hS2⟩ := map_put refIntOk hS1 2 rfl (by have := HW.out.total_small; unfold maxLen; omega) hwf (c := 0) (by decide)
                    simp only [List.set_cons_succ, List.set_cons_zero] at hS2
                    have hd1 := (hS1.blk 0 rfl).cell 1
                    simp only [List.getElem?_toArray, List.getElem?_cons_zero, List.getElem?_cons_succ] at hd1
                    have HRR := Lib.hid hRR
                    have HFREE := Lib.hid hfree
                    have HS2 := Lib.hid hS2
                    clear hRR hfree hS1 hS2 hwf hu2 hu ht2
                    go_wp2_with (first | (at_lookup; refine wpList_lookup_run rfl _ _ _ _ rfl rfl rfl hlk ?_) | (at_mapUpdate; refine wpList_mapUpdate_run rfl _ _ _ _ rfl rfl rfl rfl hput ?_))
                    go_ret2
                    obtain ⟨B, hB, hti⟩ : ∃ B, A.take 0 = some (refN q 0 j, B) ∧ TakeIs A 0 (refN q 0 j) B q j := by
                      rcases HOUT.out with ⟨h, _⟩ | ⟨_, h⟩
                      · omega
                      · exact h
                    rw [takeA_some hB, hB, takeV_some, ← HRR.out]
                    refine ⟨rfl, model_shut (v := .slice (some ⟨g, 0, none⟩) A.n cap) (tb := tb) ?_ HI.out⟩
                    show Sep w0 _ (blkR _ _ _ :: rowR _ 1 _ B.n B.clsL :: mapR _ _ _ _ _ _ _ B.total.toNat B.mdl :: _)
                    have h1 := HS2.out
                    rw [mdl_some, HRR.out, HW.out.has, HFREE.out] at h1
                    simp only [Bool.false_eq_true, if_false] at h1
                    have htn := HW.out.total_nonneg
                    rw [hti.clsL, hti.n, hti.mdl HW.out, hti.total, show (A.total + 1).toNat = A.total.toNat + 1 by omega]
                    exact h1
                  · have htk : A.tk (refN q 0 j) = true := by
                      refine HTG.out.before 1 q j HQN.out HLK.out (show j < 16 from hjC) ?_
                      have h1 := HJK.out
                      have h2 := HQP.out
                      omega
                    rw [htk] at hlk
                    have HJC := Lib.hid hjC
                    have HEX := Lib.hid hex
                    clear hRR htk hwf hex
                    go_wp2_with (at_lookup; refine wpList_lookup_run rfl _ _ _ _ rfl rfl rfl hlk ?_)
                    go_round
                    case rel => exact ⟨j + 1, HJC.out, Lib.hid (by have h1 := HJK.out; have h2 := HEX.out; have h3 := HQP.out; omega), by go_num⟩
                    case measure => have := HJC.out; simp [intOf]; omega
                · obtain rfl : j = 16 := by omega
                  have hnext : 1 < t ∨ q + 1 ≤ p := by
                    rcases HJK.out with h | h | h
                    · exact .inl h
                    · exact .inr (by omega)
                    · rcases Nat.lt_or_ge 1 t with h2 | h2
                      · exact .inl h2
                      · exfalso
                        have h3 := (HTG.out.here (by omega)).2.2.1
                        have h4 : cN 0 = 16 := rfl
                        omega
                  have HNX := Lib.hid hnext
                  clear hnext hjC hj
                  go_wp2_with fail
                  go_round
                  case rel => exact ⟨q + 1, HQN.out, HNX.out, by go_num⟩
                  case measure => have := HQN.out; simp [intOf]; omega
            · have hne : (A.cls q != -1) = true := by simpa using hlook
              have hnext : 1 < t ∨ q + 1 ≤ p := by
                rcases HQP.out with h | h
                · exact .inl h
                · rcases Nat.lt_or_ge 1 t with h2 | h2
                  · exact .inl h2
                  · right
                    rcases Nat.lt_or_ge q p with h3 | h3
                    · exact h3
                    · exfalso
                      obtain rfl : q = p := by omega
                      obtain rfl : t = 1 := by omega
                      rcases (HTG.out.here (by omega)).2.1 with ⟨h4, h5⟩ | ⟨h4, h5⟩
                      · first | exact hlook h5 | omega
                      · first | exact hlook h5 | omega
              have HNX := Lib.hid hnext
              clear hnext hlook hqn
              go_wp2_with fail
              go_round
              case rel => exact ⟨q + 1, HQN.out, HNX.out, by go_num⟩
              case measure => have := HQN.out; simp [intOf]; omega
          · obtain rfl : q = A.n := by omega
            have hut : 1 + 1 ≤ t := by
              rcases HQP.out with h | h
              · exact h
              · rcases Nat.lt_or_ge 1 t with h2 | h2
                · exact h2
                · exfalso
                  have := (HTG.out.here (by omega)).1
                  omega
            have HUT := Lib.hid hut
            clear hut hqn hq
            go_wp2_with fail
            go_round
            case rel => exact ⟨1 + 1, HUT.out, by go_num⟩
            case measure => first | (simp [intOf]; done) | (simp [intOf]; omega)
    · obtain rfl : u = 2 := by omega
      obtain rfl : t = 2 := by omega
      have htn : A.take 0 = none := by
        rcases HOUT.out with ⟨_, h⟩ | ⟨h, _⟩
        · exact h
        · omega
      have HTN := Lib.hid htn
      clear htn hu2 hu ht2
      go_wp2_with fail
      go_ret2
      rw [takeA_none HTN.out, HTN.out, takeV_none, set_self HI.out]
      exact ⟨rfl, HSS.out⟩
set_option maxRecDepth 100000 in
set_option maxHeartbeats 4000000 in
theorem MTake1 (S : Sep w0 w L) (i : Nat) (hi : L[i]? = some (modelR m A)) (hw : A.Wf) : Calls Try.prog 32 #[.pointer (some ⟨m, 0, none⟩), .int .i64 1] w fun e w' => e = .returned (takeV (A.take 1)) ∧ Sep w0 w' (L.set i (modelR m (A.takeA 1))) := by
  obtain ⟨t, p, k, htg, hout⟩ := hw.target (c := 1) (by decide)
  obtain ⟨v, tb, hS⟩ := model_open S i hi
  simp only [modelParts, List.cons_append, List.nil_append] at hS
  obtain ⟨AA, cap, rfl, hcap, hcm⟩ := hS.rowShape 1 rfl
  have hfew := hw.few
  have hc0 := (hS.blk 0 rfl).cell 0
  have hc1 := (hS.blk 0 rfl).cell 1
  simp only [List.getElem?_toArray, List.getElem?_cons_zero, List.getElem?_cons_succ] at hc0 hc1
  have ht2 := htg.le
  have HTG := Lib.hid htg
  have HOUT := Lib.hid hout
  have HS := Lib.hid hS
  have HI := Lib.hid hi
  have HW := Lib.hid hw
  have HREF : Hid (∀ q j, refN q 1 j = q * 32 + j * 4 + 1) := Lib.hid (fun _ _ => rfl)
  have HSS := Lib.hid S
  unfold maxLen at hcm
  clear htg hout hS hi hw S
  go_enter Try.func32, Try.ntmps32
  go_wp2_with fail
  go_loop [19] (fun s => ∃ u : Nat, u ≤ t ∧ s = .int .i64 u) (fun s => 3 - (intOf s).toNat)
  case atStart => exact ⟨0, by omega, rfl⟩
  case round =>
    obtain ⟨u, hu, rfl⟩ := hrel
    by_cases hu2 : u < 2
    · rcases (by omega : u = 0 ∨ u = 1) with rfl | rfl
      · go_wp2_with fail
        go_loop [27] (fun s => ∃ q : Nat, q ≤ A.n ∧ (0 < t ∨ q ≤ p) ∧ s = .int .i64 q) (fun s => A.n + 1 - (intOf s).toNat)
        case atStart => exact ⟨0, by omega, .inr (by omega), rfl⟩
        case round =>
          obtain ⟨q, hq, hqp, rfl⟩ := hrel
          have HQP := Lib.hid hqp
          clear hqp
          by_cases hqn : q < A.n
          · obtain ⟨g, cap', hsl, _, _⟩ := HS.out.rowSome 1 rfl (by omega)
            simp only [Value.slice.injEq] at hsl
            obtain ⟨rfl, -, rfl⟩ := hsl
            have hck := HS.out.rowCell 1 rfl q _ (clsL_get hqn)
            have hq0 : (0 : Int) ≤ (q : Int) := by omega
            have hqI : (q : Int) < (A.n : Int) := by omega
            have HQN := Lib.hid hqn
            by_cases hlook : A.cls q = 1
            · have HLK : Hid (looked A 1 0 q) := Lib.hid (.inl ⟨rfl, hlook⟩)
              rw [hlook] at hck
              clear hlook hqn
              go_wp2_with fail
              go_loop [49] (fun s => ∃ j : Nat, j ≤ 8 ∧ Hid (0 < t ∨ q < p ∨ j ≤ k) ∧ s = .int .i64 j) (fun s => 17 - (intOf s).toNat)
              case atStart => exact ⟨0, by omega, Lib.hid (.inr (.inr (by omega))), rfl⟩
              case round =>
                obtain ⟨j, hj, HJK, rfl⟩ := hrel
                by_cases hjC : j < 8
                · have hj0 : (0 : Int) ≤ (j : Int) := by omega
                  have hRR : 32 * (q : Int) + (j : Int) * 4 + 1 = ((refN q 1 j : Nat) : Int) := by rw [HREF.out]; omega
                  have hwf : (Lit.int .i64 (32 * (q : Int) + (j : Int) * 4 + 1)).wf = true := wf_of (by omega) (by omega)
                  have hlk := map_look refIntOk HS.out 2 rfl hwf
                  rw [mdl_some, hRR, HW.out.has] at hlk
                  rw [← hRR] at hlk
                  generalize (A.mdl (32 * (q : Int) + (j : Int) * 4 + 1)).getD 0 = z at hlk
                  by_cases hex : 0 = t ∧ q = p ∧ j = k
                  · obtain ⟨rfl, rfl, rfl⟩ := hex
                    obtain ⟨_, _, _, hfree⟩ := HTG.out.here (by omega)
                    rw [hfree] at hlk
                    have hcf := HS.out.rowFree 1 rfl q
                    have hS1 := HS.out.rowSet 1 rfl q (.int .i64 1)
                    simp only [List.set_cons_succ, List.set_cons_zero] at hS1
                    obtain ⟨w2, hput, hS2⟩ := map_put refIntOk hS1 2 rfl (by have := HW.out.total_small; unfold maxLen; omega) hwf (c := 1) (by decide)
                    simp only [List.set_cons_succ, List.set_cons_zero] at hS2
                    have hd1 := (hS1.blk 0 rfl).cell 1
                    simp only [List.getElem?_toArray, List.getElem?_cons_zero, List.getElem?_cons_succ] at hd1
                    have HRR := Lib.hid hRR
                    have HFREE := Lib.hid hfree
                    have HS2 := Lib.hid hS2
                    clear hRR hfree hS1 hS2 hwf hu2 hu ht2
                    go_wp2_with (first | (at_lookup; refine wpList_lookup_run rfl _ _ _ _ rfl rfl rfl hlk ?_) | (at_mapUpdate; refine wpList_mapUpdate_run rfl _ _ _ _ rfl rfl rfl rfl hput ?_))
                    go_ret2
                    obtain ⟨B, hB, hti⟩ : ∃ B, A.take 1 = some (refN q 1 j, B) ∧ TakeIs A 1 (refN q 1 j) B q j := by
                      rcases HOUT.out with ⟨h, _⟩ | ⟨_, h⟩
                      · omega
                      · exact h
                    rw [takeA_some hB, hB, takeV_some, ← HRR.out]
                    refine ⟨rfl, model_shut (v := .slice (some ⟨g, 0, none⟩) A.n cap) (tb := tb) ?_ HI.out⟩
                    show Sep w0 _ (blkR _ _ _ :: rowR _ 1 _ B.n B.clsL :: mapR _ _ _ _ _ _ _ B.total.toNat B.mdl :: _)
                    have h1 := HS2.out
                    rw [mdl_some, HRR.out, HW.out.has, HFREE.out] at h1
                    simp only [Bool.false_eq_true, if_false] at h1
                    have htn := HW.out.total_nonneg
                    rw [hti.clsL, hti.n, hti.mdl HW.out, hti.total, show (A.total + 1).toNat = A.total.toNat + 1 by omega]
                    exact h1
                  · have htk : A.tk (refN q 1 j) = true := by
                      refine HTG.out.before 0 q j HQN.out HLK.out (show j < 8 from hjC) ?_
                      have h1 := HJK.out
                      have h2 := HQP.out
                      omega
                    rw [htk] at hlk
                    have HJC := Lib.hid hjC
                    have HEX := Lib.hid hex
                    clear hRR htk hwf hex
                    go_wp2_with (at_lookup; refine wpList_lookup_run rfl _ _ _ _ rfl rfl rfl hlk ?_)
                    go_round
                    case rel => exact ⟨j + 1, HJC.out, Lib.hid (by have h1 := HJK.out; have h2 := HEX.out; have h3 := HQP.out; omega), by go_num⟩
                    case measure => have := HJC.out; simp [intOf]; omega
                · obtain rfl : j = 8 := by omega
                  have hnext : 0 < t ∨ q + 1 ≤ p := by
                    rcases HJK.out with h | h | h
                    · exact .inl h
                    · exact .inr (by omega)
                    · rcases Nat.lt_or_ge 0 t with h2 | h2
                      · exact .inl h2
                      · exfalso
                        have h3 := (HTG.out.here (by omega)).2.2.1
                        have h4 : cN 1 = 8 := rfl
                        omega
                  have HNX := Lib.hid hnext
                  clear hnext hjC hj
                  go_wp2_with fail
                  go_round
                  case rel => exact ⟨q + 1, HQN.out, HNX.out, by go_num⟩
                  case measure => have := HQN.out; simp [intOf]; omega
            · have hne : (A.cls q != 1) = true := by simpa using hlook
              have hnext : 0 < t ∨ q + 1 ≤ p := by
                rcases HQP.out with h | h
                · exact .inl h
                · rcases Nat.lt_or_ge 0 t with h2 | h2
                  · exact .inl h2
                  · right
                    rcases Nat.lt_or_ge q p with h3 | h3
                    · exact h3
                    · exfalso
                      obtain rfl : q = p := by omega
                      obtain rfl : t = 0 := by omega
                      rcases (HTG.out.here (by omega)).2.1 with ⟨h4, h5⟩ | ⟨h4, h5⟩
                      · first | exact hlook h5 | omega
                      · first | exact hlook h5 | omega
              have HNX := Lib.hid hnext
              clear hnext hlook hqn
              go_wp2_with fail
              go_round
              case rel => exact ⟨q + 1, HQN.out, HNX.out, by go_num⟩
              case measure => have := HQN.out; simp [intOf]; omega
          · obtain rfl : q = A.n := by omega
            have hut : 0 + 1 ≤ t := by
              rcases HQP.out with h | h
              · exact h
              · rcases Nat.lt_or_ge 0 t with h2 | h2
                · exact h2
                · exfalso
                  have := (HTG.out.here (by omega)).1
                  omega
            have HUT := Lib.hid hut
            clear hut hqn hq
            go_wp2_with fail
            go_round
            case rel => exact ⟨0 + 1, HUT.out, by go_num⟩
            case measure => first | (simp [intOf]; done) | (simp [intOf]; omega)
      · go_wp2_with fail
        go_loop [27] (fun s => ∃ q : Nat, q ≤ A.n ∧ (1 < t ∨ q ≤ p) ∧ s = .int .i64 q) (fun s => A.n + 1 - (intOf s).toNat)
        case atStart => exact ⟨0, by omega, .inr (by omega), rfl⟩
        case round =>
          obtain ⟨q, hq, hqp, rfl⟩ := hrel
          have HQP := Lib.hid hqp
          clear hqp
          by_cases hqn : q < A.n
          · obtain ⟨g, cap', hsl, _, _⟩ := HS.out.rowSome 1 rfl (by omega)
            simp only [Value.slice.injEq] at hsl
            obtain ⟨rfl, -, rfl⟩ := hsl
            have hck := HS.out.rowCell 1 rfl q _ (clsL_get hqn)
            have hq0 : (0 : Int) ≤ (q : Int) := by omega
            have hqI : (q : Int) < (A.n : Int) := by omega
            have HQN := Lib.hid hqn
            by_cases hlook : A.cls q = -1
            · have HLK : Hid (looked A 1 1 q) := Lib.hid (.inr ⟨rfl, hlook⟩)
              rw [hlook] at hck
              clear hlook hqn
              go_wp2_with fail
              go_loop [49] (fun s => ∃ j : Nat, j ≤ 8 ∧ Hid (1 < t ∨ q < p ∨ j ≤ k) ∧ s = .int .i64 j) (fun s => 17 - (intOf s).toNat)
              case atStart => exact ⟨0, by omega, Lib.hid (.inr (.inr (by omega))), rfl⟩
              case round =>
                obtain ⟨j, hj, HJK, rfl⟩ := hrel
                by_cases hjC : j < 8
                · have hj0 : (0 : Int) ≤ (j : Int) := by omega
                  have hRR : 32 * (q : Int) + (j : Int) * 4 + 1 = ((refN q 1 j : Nat) : Int) := by rw [HREF.out]; omega
                  have hwf : (Lit.int .i64 (32 * (q : Int) + (j : Int) * 4 + 1)).wf = true := wf_of (by omega) (by omega)
                  have hlk := map_look refIntOk HS.out 2 rfl hwf
                  rw [mdl_some, hRR, HW.out.has] at hlk
                  rw [← hRR] at hlk
                  generalize (A.mdl (32 * (q : Int) + (j : Int) * 4 + 1)).getD 0 = z at hlk
                  by_cases hex : 1 = t ∧ q = p ∧ j = k
                  · obtain ⟨rfl, rfl, rfl⟩ := hex
                    obtain ⟨_, _, _, hfree⟩ := HTG.out.here (by omega)
                    rw [hfree] at hlk
                    have hcf := HS.out.rowFree 1 rfl q
                    have hS1 := HS.out.rowSet 1 rfl q (.int .i64 1)
                    simp only [List.set_cons_succ, List.set_cons_zero] at hS1
                    obtain ⟨w2, hput, hS2⟩ := map_put refIntOk hS1 2 rfl (by have := HW.out.total_small; unfold maxLen; omega) hwf (c := 1) (by decide)
                    simp only [List.set_cons_succ, List.set_cons_zero] at hS2
                    have hd1 := (hS1.blk 0 rfl).cell 1
                    simp only [List.getElem?_toArray, List.getElem?_cons_zero, List.getElem?_cons_succ] at hd1
                    have HRR := Lib.hid hRR
                    have HFREE := Lib.hid hfree
                    have HS2 := Lib.hid hS2
                    clear hRR hfree hS1 hS2 hwf hu2 hu ht2
                    go_wp2_with (first | (at_lookup; refine wpList_lookup_run rfl _ _ _ _ rfl rfl rfl hlk ?_) | (at_mapUpdate; refine wpList_mapUpdate_run rfl _ _ _ _ rfl rfl rfl rfl hput ?_))
                    go_ret2
                    obtain ⟨B, hB, hti⟩ : ∃ B, A.take 1 = some (refN q 1 j, B) ∧ TakeIs A 1 (refN q 1 j) B q j := by
                      rcases HOUT.out with ⟨h, _⟩ | ⟨_, h⟩
                      · omega
                      · exact h
                    rw [takeA_some hB, hB, takeV_some, ← HRR.out]
                    refine ⟨rfl, model_shut (v := .slice (some ⟨g, 0, none⟩) A.n cap) (tb := tb) ?_ HI.out⟩
                    show Sep w0 _ (blkR _ _ _ :: rowR _ 1 _ B.n B.clsL :: mapR _ _ _ _ _ _ _ B.total.toNat B.mdl :: _)
                    have h1 := HS2.out
                    rw [mdl_some, HRR.out, HW.out.has, HFREE.out] at h1
                    simp only [Bool.false_eq_true, if_false] at h1
                    have htn := HW.out.total_nonneg
                    rw [hti.clsL, hti.n, hti.mdl HW.out, hti.total, show (A.total + 1).toNat = A.total.toNat + 1 by omega]
                    exact h1
                  · have htk : A.tk (refN q 1 j) = true := by
                      refine HTG.out.before 1 q j HQN.out HLK.out (show j < 8 from hjC) ?_
                      have h1 := HJK.out
                      have h2 := HQP.out
                      omega
                    rw [htk] at hlk
                    have HJC := Lib.hid hjC
                    have HEX := Lib.hid hex
                    clear hRR htk hwf hex
                    go_wp2_with (at_lookup; refine wpList_lookup_run rfl _ _ _ _ rfl rfl rfl hlk ?_)
                    go_round
                    case rel => exact ⟨j + 1, HJC.out, Lib.hid (by have h1 := HJK.out; have h2 := HEX.out; have h3 := HQP.out; omega), by go_num⟩
                    case measure => have := HJC.out; simp [intOf]; omega
                · obtain rfl : j = 8 := by omega
                  have hnext : 1 < t ∨ q + 1 ≤ p := by
                    rcases HJK.out with h | h | h
                    · exact .inl h
                    · exact .inr (by omega)
                    · rcases Nat.lt_or_ge 1 t with h2 | h2
                      · exact .inl h2
                      · exfalso
                        have h3 := (HTG.out.here (by omega)).2.2.1
                        have h4 : cN 1 = 8 := rfl
                        omega
                  have HNX := Lib.hid hnext
                  clear hnext hjC hj
                  go_wp2_with fail
                  go_round
                  case rel => exact ⟨q + 1, HQN.out, HNX.out, by go_num⟩
                  case measure => have := HQN.out; simp [intOf]; omega
            · have hne : (A.cls q != -1) = true := by simpa using hlook
              have hnext : 1 < t ∨ q + 1 ≤ p := by
                rcases HQP.out with h | h
                · exact .inl h
                · rcases Nat.lt_or_ge 1 t with h2 | h2
                  · exact .inl h2
                  · right
                    rcases Nat.lt_or_ge q p with h3 | h3
                    · exact h3
                    · exfalso
                      obtain rfl : q = p := by omega
                      obtain rfl : t = 1 := by omega
                      rcases (HTG.out.here (by omega)).2.1 with ⟨h4, h5⟩ | ⟨h4, h5⟩
                      · first | exact hlook h5 | omega
                      · first | exact hlook h5 | omega
              have HNX := Lib.hid hnext
              clear hnext hlook hqn
              go_wp2_with fail
              go_round
              case rel => exact ⟨q + 1, HQN.out, HNX.out, by go_num⟩
              case measure => have := HQN.out; simp [intOf]; omega
          · obtain rfl : q = A.n := by omega
            have hut : 1 + 1 ≤ t := by
              rcases HQP.out with h | h
              · exact h
              · rcases Nat.lt_or_ge 1 t with h2 | h2
                · exact h2
                · exfalso
                  have := (HTG.out.here (by omega)).1
                  omega
            have HUT := Lib.hid hut
            clear hut hqn hq
            go_wp2_with fail
            go_round
            case rel => exact ⟨1 + 1, HUT.out, by go_num⟩
            case measure => first | (simp [intOf]; done) | (simp [intOf]; omega)
    · obtain rfl : u = 2 := by omega
      obtain rfl : t = 2 := by omega
      have htn : A.take 1 = none := by
        rcases HOUT.out with ⟨_, h⟩ | ⟨h, _⟩
        · exact h
        · omega
      have HTN := Lib.hid htn
      clear htn hu2 hu ht2
      go_wp2_with fail
      go_ret2
      rw [takeA_none HTN.out, HTN.out, takeV_none, set_self HI.out]
      exact ⟨rfl, HSS.out⟩
set_option maxRecDepth 100000 in
set_option maxHeartbeats 4000000 in
theorem MTake2 (S : Sep w0 w L) (i : Nat) (hi : L[i]? = some (modelR m A)) (hw : A.Wf) : Calls Try.prog 32 #[.pointer (some ⟨m, 0, none⟩), .int .i64 2] w fun e w' => e = .returned (takeV (A.take 2)) ∧ Sep w0 w' (L.set i (modelR m (A.takeA 2))) := by
  obtain ⟨t, p, k, htg, hout⟩ := hw.target (c := 2) (by decide)
  obtain ⟨v, tb, hS⟩ := model_open S i hi
  simp only [modelParts, List.cons_append, List.nil_append] at hS
  obtain ⟨AA, cap, rfl, hcap, hcm⟩ := hS.rowShape 1 rfl
  have hfew := hw.few
  have hc0 := (hS.blk 0 rfl).cell 0
  have hc1 := (hS.blk 0 rfl).cell 1
  simp only [List.getElem?_toArray, List.getElem?_cons_zero, List.getElem?_cons_succ] at hc0 hc1
  have ht2 := htg.le
  have HTG := Lib.hid htg
  have HOUT := Lib.hid hout
  have HS := Lib.hid hS
  have HI := Lib.hid hi
  have HW := Lib.hid hw
  have HREF : Hid (∀ q j, refN q 2 j = q * 32 + j * 8 + 1) := Lib.hid (fun _ _ => rfl)
  have HSS := Lib.hid S
  unfold maxLen at hcm
  clear htg hout hS hi hw S
  go_enter Try.func32, Try.ntmps32
  go_wp2_with fail
  go_loop [19] (fun s => ∃ u : Nat, u ≤ t ∧ s = .int .i64 u) (fun s => 3 - (intOf s).toNat)
  case atStart => exact ⟨0, by omega, rfl⟩
  case round =>
    obtain ⟨u, hu, rfl⟩ := hrel
    by_cases hu2 : u < 2
    · rcases (by omega : u = 0 ∨ u = 1) with rfl | rfl
      · go_wp2_with fail
        go_loop [27] (fun s => ∃ q : Nat, q ≤ A.n ∧ (0 < t ∨ q ≤ p) ∧ s = .int .i64 q) (fun s => A.n + 1 - (intOf s).toNat)
        case atStart => exact ⟨0, by omega, .inr (by omega), rfl⟩
        case round =>
          obtain ⟨q, hq, hqp, rfl⟩ := hrel
          have HQP := Lib.hid hqp
          clear hqp
          by_cases hqn : q < A.n
          · obtain ⟨g, cap', hsl, _, _⟩ := HS.out.rowSome 1 rfl (by omega)
            simp only [Value.slice.injEq] at hsl
            obtain ⟨rfl, -, rfl⟩ := hsl
            have hck := HS.out.rowCell 1 rfl q _ (clsL_get hqn)
            have hq0 : (0 : Int) ≤ (q : Int) := by omega
            have hqI : (q : Int) < (A.n : Int) := by omega
            have HQN := Lib.hid hqn
            by_cases hlook : A.cls q = 2
            · have HLK : Hid (looked A 2 0 q) := Lib.hid (.inl ⟨rfl, hlook⟩)
              rw [hlook] at hck
              clear hlook hqn
              go_wp2_with fail
              go_loop [49] (fun s => ∃ j : Nat, j ≤ 4 ∧ Hid (0 < t ∨ q < p ∨ j ≤ k) ∧ s = .int .i64 j) (fun s => 17 - (intOf s).toNat)
              case atStart => exact ⟨0, by omega, Lib.hid (.inr (.inr (by omega))), rfl⟩
              case round =>
                obtain ⟨j, hj, HJK, rfl⟩ := hrel
                by_cases hjC : j < 4
                · have hj0 : (0 : Int) ≤ (j : Int) := by omega
                  have hRR : 32 * (q : Int) + (j : Int) * 8 + 1 = ((refN q 2 j : Nat) : Int) := by rw [HREF.out]; omega
                  have hwf : (Lit.int .i64 (32 * (q : Int) + (j : Int) * 8 + 1)).wf = true := wf_of (by omega) (by omega)
                  have hlk := map_look refIntOk HS.out 2 rfl hwf
                  rw [mdl_some, hRR, HW.out.has] at hlk
                  rw [← hRR] at hlk
                  generalize (A.mdl (32 * (q : Int) + (j : Int) * 8 + 1)).getD 0 = z at hlk
                  by_cases hex : 0 = t ∧ q = p ∧ j = k
                  · obtain ⟨rfl, rfl, rfl⟩ := hex
                    obtain ⟨_, _, _, hfree⟩ := HTG.out.here (by omega)
                    rw [hfree] at hlk
                    have hcf := HS.out.rowFree 1 rfl q
                    have hS1 := HS.out.rowSet 1 rfl q (.int .i64 2)
                    simp only [List.set_cons_succ, List.set_cons_zero] at hS1
                    obtain ⟨w2, hput, hS2⟩ := map_put refIntOk hS1 2 rfl (by have := HW.out.total_small; unfold maxLen; omega) hwf (c := 2) (by decide)
                    simp only [List.set_cons_succ, List.set_cons_zero] at hS2
                    have hd1 := (hS1.blk 0 rfl).cell 1
                    simp only [List.getElem?_toArray, List.getElem?_cons_zero, List.getElem?_cons_succ] at hd1
                    have HRR := Lib.hid hRR
                    have HFREE := Lib.hid hfree
                    have HS2 := Lib.hid hS2
                    clear hRR hfree hS1 hS2 hwf hu2 hu ht2
                    go_wp2_with (first | (at_lookup; refine wpList_lookup_run rfl _ _ _ _ rfl rfl rfl hlk ?_) | (at_mapUpdate; refine wpList_mapUpdate_run rfl _ _ _ _ rfl rfl rfl rfl hput ?_))
                    go_ret2
                    obtain ⟨B, hB, hti⟩ : ∃ B, A.take 2 = some (refN q 2 j, B) ∧ TakeIs A 2 (refN q 2 j) B q j := by
                      rcases HOUT.out with ⟨h, _⟩ | ⟨_, h⟩
                      · omega
                      · exact h
                    rw [takeA_some hB, hB, takeV_some, ← HRR.out]
                    refine ⟨rfl, model_shut (v := .slice (some ⟨g, 0, none⟩) A.n cap) (tb := tb) ?_ HI.out⟩
                    show Sep w0 _ (blkR _ _ _ :: rowR _ 1 _ B.n B.clsL :: mapR _ _ _ _ _ _ _ B.total.toNat B.mdl :: _)
                    have h1 := HS2.out
                    rw [mdl_some, HRR.out, HW.out.has, HFREE.out] at h1
                    simp only [Bool.false_eq_true, if_false] at h1
                    have htn := HW.out.total_nonneg
                    rw [hti.clsL, hti.n, hti.mdl HW.out, hti.total, show (A.total + 1).toNat = A.total.toNat + 1 by omega]
                    exact h1
                  · have htk : A.tk (refN q 2 j) = true := by
                      refine HTG.out.before 0 q j HQN.out HLK.out (show j < 4 from hjC) ?_
                      have h1 := HJK.out
                      have h2 := HQP.out
                      omega
                    rw [htk] at hlk
                    have HJC := Lib.hid hjC
                    have HEX := Lib.hid hex
                    clear hRR htk hwf hex
                    go_wp2_with (at_lookup; refine wpList_lookup_run rfl _ _ _ _ rfl rfl rfl hlk ?_)
                    go_round
                    case rel => exact ⟨j + 1, HJC.out, Lib.hid (by have h1 := HJK.out; have h2 := HEX.out; have h3 := HQP.out; omega), by go_num⟩
                    case measure => have := HJC.out; simp [intOf]; omega
                · obtain rfl : j = 4 := by omega
                  have hnext : 0 < t ∨ q + 1 ≤ p := by
                    rcases HJK.out with h | h | h
                    · exact .inl h
                    · exact .inr (by omega)
                    · rcases Nat.lt_or_ge 0 t with h2 | h2
                      · exact .inl h2
                      · exfalso
                        have h3 := (HTG.out.here (by omega)).2.2.1
                        have h4 : cN 2 = 4 := rfl
                        omega
                  have HNX := Lib.hid hnext
                  clear hnext hjC hj
                  go_wp2_with fail
                  go_round
                  case rel => exact ⟨q + 1, HQN.out, HNX.out, by go_num⟩
                  case measure => have := HQN.out; simp [intOf]; omega
            · have hne : (A.cls q != 2) = true := by simpa using hlook
              have hnext : 0 < t ∨ q + 1 ≤ p := by
                rcases HQP.out with h | h
                · exact .inl h
                · rcases Nat.lt_or_ge 0 t with h2 | h2
                  · exact .inl h2
                  · right
                    rcases Nat.lt_or_ge q p with h3 | h3
                    · exact h3
                    · exfalso
                      obtain rfl : q = p := by omega
                      obtain rfl : t = 0 := by omega
                      rcases (HTG.out.here (by omega)).2.1 with ⟨h4, h5⟩ | ⟨h4, h5⟩
                      · first | exact hlook h5 | omega
                      · first | exact hlook h5 | omega
              have HNX := Lib.hid hnext
              clear hnext hlook hqn
              go_wp2_with fail
              go_round
              case rel => exact ⟨q + 1, HQN.out, HNX.out, by go_num⟩
              case measure => have := HQN.out; simp [intOf]; omega
          · obtain rfl : q = A.n := by omega
            have hut : 0 + 1 ≤ t := by
              rcases HQP.out with h | h
              · exact h
              · rcases Nat.lt_or_ge 0 t with h2 | h2
                · exact h2
                · exfalso
                  have := (HTG.out.here (by omega)).1
                  omega
            have HUT := Lib.hid hut
            clear hut hqn hq
            go_wp2_with fail
            go_round
            case rel => exact ⟨0 + 1, HUT.out, by go_num⟩
            case measure => first | (simp [intOf]; done) | (simp [intOf]; omega)
      · go_wp2_with fail
        go_loop [27] (fun s => ∃ q : Nat, q ≤ A.n ∧ (1 < t ∨ q ≤ p) ∧ s = .int .i64 q) (fun s => A.n + 1 - (intOf s).toNat)
        case atStart => exact ⟨0, by omega, .inr (by omega), rfl⟩
        case round =>
          obtain ⟨q, hq, hqp, rfl⟩ := hrel
          have HQP := Lib.hid hqp
          clear hqp
          by_cases hqn : q < A.n
          · obtain ⟨g, cap', hsl, _, _⟩ := HS.out.rowSome 1 rfl (by omega)
            simp only [Value.slice.injEq] at hsl
            obtain ⟨rfl, -, rfl⟩ := hsl
            have hck := HS.out.rowCell 1 rfl q _ (clsL_get hqn)
            have hq0 : (0 : Int) ≤ (q : Int) := by omega
            have hqI : (q : Int) < (A.n : Int) := by omega
            have HQN := Lib.hid hqn
            by_cases hlook : A.cls q = -1
            · have HLK : Hid (looked A 2 1 q) := Lib.hid (.inr ⟨rfl, hlook⟩)
              rw [hlook] at hck
              clear hlook hqn
              go_wp2_with fail
              go_loop [49] (fun s => ∃ j : Nat, j ≤ 4 ∧ Hid (1 < t ∨ q < p ∨ j ≤ k) ∧ s = .int .i64 j) (fun s => 17 - (intOf s).toNat)
              case atStart => exact ⟨0, by omega, Lib.hid (.inr (.inr (by omega))), rfl⟩
              case round =>
                obtain ⟨j, hj, HJK, rfl⟩ := hrel
                by_cases hjC : j < 4
                · have hj0 : (0 : Int) ≤ (j : Int) := by omega
                  have hRR : 32 * (q : Int) + (j : Int) * 8 + 1 = ((refN q 2 j : Nat) : Int) := by rw [HREF.out]; omega
                  have hwf : (Lit.int .i64 (32 * (q : Int) + (j : Int) * 8 + 1)).wf = true := wf_of (by omega) (by omega)
                  have hlk := map_look refIntOk HS.out 2 rfl hwf
                  rw [mdl_some, hRR, HW.out.has] at hlk
                  rw [← hRR] at hlk
                  generalize (A.mdl (32 * (q : Int) + (j : Int) * 8 + 1)).getD 0 = z at hlk
                  by_cases hex : 1 = t ∧ q = p ∧ j = k
                  · obtain ⟨rfl, rfl, rfl⟩ := hex
                    obtain ⟨_, _, _, hfree⟩ := HTG.out.here (by omega)
                    rw [hfree] at hlk
                    have hcf := HS.out.rowFree 1 rfl q
                    have hS1 := HS.out.rowSet 1 rfl q (.int .i64 2)
                    simp only [List.set_cons_succ, List.set_cons_zero] at hS1
                    obtain ⟨w2, hput, hS2⟩ := map_put refIntOk hS1 2 rfl (by have := HW.out.total_small; unfold maxLen; omega) hwf (c := 2) (by decide)
                    simp only [List.set_cons_succ, List.set_cons_zero] at hS2
                    have hd1 := (hS1.blk 0 rfl).cell 1
                    simp only [List.getElem?_toArray, List.getElem?_cons_zero, List.getElem?_cons_succ] at hd1
                    have HRR := Lib.hid hRR
                    have HFREE := Lib.hid hfree
                    have HS2 := Lib.hid hS2
                    clear hRR hfree hS1 hS2 hwf hu2 hu ht2
                    go_wp2_with (first | (at_lookup; refine wpList_lookup_run rfl _ _ _ _ rfl rfl rfl hlk ?_) | (at_mapUpdate; refine wpList_mapUpdate_run rfl _ _ _ _ rfl rfl rfl rfl hput ?_))
                    go_ret2
                    obtain ⟨B, hB, hti⟩ : ∃ B, A.take 2 = some (refN q 2 j, B) ∧ TakeIs A 2 (refN q 2 j) B q j := by
                      rcases HOUT.out with ⟨h, _⟩ | ⟨_, h⟩
                      · omega
                      · exact h
                    rw [takeA_some hB, hB, takeV_some, ← HRR.out]
                    refine ⟨rfl, model_shut (v := .slice (some ⟨g, 0, none⟩) A.n cap) (tb := tb) ?_ HI.out⟩
                    show Sep w0 _ (blkR _ _ _ :: rowR _ 1 _ B.n B.clsL :: mapR _ _ _ _ _ _ _ B.total.toNat B.mdl :: _)
                    have h1 := HS2.out
                    rw [mdl_some, HRR.out, HW.out.has, HFREE.out] at h1
                    simp only [Bool.false_eq_true, if_false] at h1
                    have htn := HW.out.total_nonneg
                    rw [hti.clsL, hti.n, hti.mdl HW.out, hti.total, show (A.total + 1).toNat = A.total.toNat + 1 by omega]
                    exact h1
                  · have htk : A.tk (refN q 2 j) = true := by
                      refine HTG.out.before 1 q j HQN.out HLK.out (show j < 4 from hjC) ?_
                      have h1 := HJK.out
                      have h2 := HQP.out
                      omega
                    rw [htk] at hlk
                    have HJC := Lib.hid hjC
                    have HEX := Lib.hid hex
                    clear hRR htk hwf hex
                    go_wp2_with (at_lookup; refine wpList_lookup_run rfl _ _ _ _ rfl rfl rfl hlk ?_)
                    go_round
                    case rel => exact ⟨j + 1, HJC.out, Lib.hid (by have h1 := HJK.out; have h2 := HEX.out; have h3 := HQP.out; omega), by go_num⟩
                    case measure => have := HJC.out; simp [intOf]; omega
                · obtain rfl : j = 4 := by omega
                  have hnext : 1 < t ∨ q + 1 ≤ p := by
                    rcases HJK.out with h | h | h
                    · exact .inl h
                    · exact .inr (by omega)
                    · rcases Nat.lt_or_ge 1 t with h2 | h2
                      · exact .inl h2
                      · exfalso
                        have h3 := (HTG.out.here (by omega)).2.2.1
                        have h4 : cN 2 = 4 := rfl
                        omega
                  have HNX := Lib.hid hnext
                  clear hnext hjC hj
                  go_wp2_with fail
                  go_round
                  case rel => exact ⟨q + 1, HQN.out, HNX.out, by go_num⟩
                  case measure => have := HQN.out; simp [intOf]; omega
            · have hne : (A.cls q != -1) = true := by simpa using hlook
              have hnext : 1 < t ∨ q + 1 ≤ p := by
                rcases HQP.out with h | h
                · exact .inl h
                · rcases Nat.lt_or_ge 1 t with h2 | h2
                  · exact .inl h2
                  · right
                    rcases Nat.lt_or_ge q p with h3 | h3
                    · exact h3
                    · exfalso
                      obtain rfl : q = p := by omega
                      obtain rfl : t = 1 := by omega
                      rcases (HTG.out.here (by omega)).2.1 with ⟨h4, h5⟩ | ⟨h4, h5⟩
                      · first | exact hlook h5 | omega
                      · first | exact hlook h5 | omega
              have HNX := Lib.hid hnext
              clear hnext hlook hqn
              go_wp2_with fail
              go_round
              case rel => exact ⟨q + 1, HQN.out, HNX.out, by go_num⟩
              case measure => have := HQN.out; simp [intOf]; omega
          · obtain rfl : q = A.n := by omega
            have hut : 1 + 1 ≤ t := by
              rcases HQP.out with h | h
              · exact h
              · rcases Nat.lt_or_ge 1 t with h2 | h2
                · exact h2
                · exfalso
                  have := (HTG.out.here (by omega)).1
                  omega
            have HUT := Lib.hid hut
            clear hut hqn hq
            go_wp2_with fail
            go_round
            case rel => exact ⟨1 + 1, HUT.out, by go_num⟩
            case measure => first | (simp [intOf]; done) | (simp [intOf]; omega)
    · obtain rfl : u = 2 := by omega
      obtain rfl : t = 2 := by omega
      have htn : A.take 2 = none := by
        rcases HOUT.out with ⟨_, h⟩ | ⟨h, _⟩
        · exact h
        · omega
      have HTN := Lib.hid htn
      clear htn hu2 hu ht2
      go_wp2_with fail
      go_ret2
      rw [takeA_none HTN.out, HTN.out, takeV_none, set_self HI.out]
      exact ⟨rfl, HSS.out⟩

theorem MTake (S : Sep w0 w L) (i : Nat) (hi : L[i]? = some (modelR m A)) (hw : A.Wf) (c : Int) : Calls Try.prog 32 #[.pointer (some ⟨m, 0, none⟩), .int .i64 c] w fun e w' => e = .returned (takeV (A.take c)) ∧ Sep w0 w' (L.set i (modelR m (A.takeA c))) := by
  rcases (by omega : (c < 0 ∨ 2 < c) ∨ c = 0 ∨ c = 1 ∨ c = 2) with h | rfl | rfl | rfl
  · exact MTakeOut S i hi c h
  · exact MTake0 S i hi hw
  · exact MTake1 S i hi hw
  · exact MTake2 S i hi hw
end
end Go.Proofs.Ytapbphbnffggnaa
