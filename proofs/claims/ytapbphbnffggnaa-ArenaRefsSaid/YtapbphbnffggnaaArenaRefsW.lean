/-
  The walk of ArenaRefs. Conditions: as the theorem says.
-/
import Derived.Test.YtapbphbnffggnaaFit03
import Derived.Test.YtapbphbnffggnaaBits
namespace Go.Proofs.Ytapbphbnffggnaa
open Go.RowKit Go.Shelf
attribute [local go_sem] Oper.semAt_some wide_fn round_fn wide_depth round_depth
attribute [local simp] wide_fn round_fn wide_depth round_depth

theorem AR.takeA_n (A : AR) (c : Int) : (A.takeA c).n = A.n := by
  unfold AR.takeA AR.take
  by_cases hc : cN c = 0
  · rw [if_pos hc]
  · rw [if_neg hc]
    cases A.gapP c with
    | some x => rfl
    | none => cases A.freeP with
      | some p => rfl
      | none => rfl

theorem any_elems {A : AR} (hw : A.Wf) (raw : Int) : ((elems (A.n * 32 + 1) A.tk).any fun r => (r : Int) == raw) = A.has raw := by
  rw [Bool.eq_iff_iff]
  simp only [List.any_eq_true, beq_iff_eq]
  constructor
  · rintro ⟨r, hr, rfl⟩
    rw [hw.has]
    exact (mem_elems.1 hr).2
  · intro h
    have h' := h
    unfold AR.has at h
    simp at h
    obtain ⟨r, rfl⟩ := Int.eq_ofNat_of_zero_le h.1.1
    rw [hw.has] at h'
    exact ⟨r, mem_elems.2 ⟨(hw.lt h').2.1, h'⟩, rfl⟩
theorem has_cls {A : AR} (hw : A.Wf) {raw : Int} (h : A.has raw = true) : 0 ≤ A.clsZ (A.page raw) := by
  have h' := h
  unfold AR.has at h
  simp at h
  obtain ⟨r, rfl⟩ := Int.eq_ofNat_of_zero_le h.1.1
  rw [hw.has] at h'
  obtain ⟨p, k, hp, h0, hk, rfl⟩ := hw.cell r h'
  have := ref_in (p := p) hk
  have hpg : A.page ((refN p (A.cls p) k : Nat) : Int) = (p : Int) := by
    unfold AR.page
    rw [if_pos ⟨by omega, h.1.2⟩]
    omega
  rw [hpg]
  unfold AR.clsZ
  rw [if_pos (by omega)]
  simpa using h0
theorem give_has {A : AR} (hw : A.Wf) (raw : Int) : (A.give raw).has raw = false := by
  unfold AR.give
  cases h : A.has raw
  · simpa using h
  · simp only [if_true]
    unfold AR.has AR.drop
    simp

set_option maxRecDepth 100000 in
set_option maxHeartbeats 4000000 in
theorem arenaRefs_walk (pages n raw : Int) (w : World) (_wp : (Lit.int .i64 pages).wf = true) (_wn : (Lit.int .i64 n).wf = true) (wr : (Lit.int .i64 raw).wf = true) :
    Calls Try.prog 10 #[.int .i64 pages, .int .i64 n, .int .i64 raw] w fun e w' => e = .returned (.bool true) ∧ Below w.heap.size w w' := by
  have hraw := wf64 wr
  obtain ⟨m, hm⟩ : ∃ m : Nat, pages % 8 = (m : Int) := ⟨(pages % 8).toNat, by omega⟩
  have hm8 : m < 8 := by omega
  obtain ⟨N, hN⟩ : ∃ N : Nat, n % 32 = (N : Int) := ⟨(n % 32).toNat, by omega⟩
  have hN32 : N < 32 := by omega
  have hand7 := and_7 pages
  have hand31 := and_31 n
  rw [hm] at hand7
  rw [hN] at hand31
  clear hm hN _wp _wn wr
  refine calls_wide ?_
  refine callsIn_of_wp_marks Try.func10 rfl trivial ?_
  simp only [Try.ntmps10, List.size_toArray, List.length_cons, List.length_nil, Nat.reduceAdd, Nat.reduceSub, Array.replicate_succ, Array.replicate_zero, List.push_toArray, List.append_toArray, List.nil_append, List.cons_append]
  have HS0 := Lib.hid ((Sep.start w).box #[.int .i64 raw] 26)
  gi_wp2_with (gi_at_call 17; refine (calls_in (fit03 _)).mono ?_; rintro e w1 ⟨rfl, hc⟩; have HS1 := Lib.hid (HS0.out.same hc); clear hc HS0)
  gi_wp2_with (gi_at_call 18; refine (calls_in (TANew HS1.out (m : Int) m (by omega))).mono ?_; rintro e w2 ⟨a, ids, rfl, hs⟩; have HS2 := Lib.hid hs; clear hs HS1)
  have HW0 := Lib.hid (AR.new_wf m ids (by omega))
  gi_loopw [21] (fun i wr => ∃ (k : Nat) (A : AR), k ≤ N ∧ i = .int .i64 k ∧ A.Wf ∧ A.n = m ∧ Sep w wr [arenaR a A, blkR w.heap.size 26 #[.int .i64 raw]]) (fun i _ => N + 1 - (intOf i).toNat)
  case atStart => exact ⟨0, _, by omega, rfl, HW0.out, rfl, HS2.out⟩
  case round =>
    obtain ⟨k, A, hk, rfl, hwf, hAn, hS⟩ := hrel
    clear HS2 HW0
    have HS := Lib.hid hS
    have HWF := Lib.hid hwf
    have HAN := Lib.hid hAn
    clear hS hwf hAn
    by_cases hlt : k < N
    · have HLT := Lib.hid hlt
      gi_wp2_with (gi_at_call 22; refine (calls_in (TATake HS.out 0 rfl HWF.out _)).mono ?_; rintro e w3 ⟨rfl, hs⟩; have HS3 := Lib.hid hs; clear hs)
      go_roundw
      case rel => exact ⟨k + 1, _, HLT.out, by go_num, HWF.out.takeA_wf _, (AR.takeA_n _ _).trans HAN.out, HS3.out⟩
      case measure => have := HLT.out; simp [intOf]; omega
    · have hb := (HS.out.blk 1 rfl).cell 0
      simp at hb
      obtain rfl : k = N := by omega
      clear hk hlt
      have hr63 : raw ≤ 9223372036854775807 := hraw.2
      have hpage : A.page raw = if 1 ≤ raw ∧ raw ≤ 32 * (m : Int) then (raw - 1) / 32 else -1 := by
        have := HAN.out
        unfold AR.page AR.size
        by_cases h : 1 ≤ raw ∧ raw ≤ 32 * (m : Int)
        · rw [if_pos h, if_pos (by omega)]
        · rw [if_neg h, if_neg (by omega)]
      have hw1 : IntKind.i64.wrap (32 * (m : Int)) = 32 * (m : Int) := by rw [IntKind.wrap_i64]; omega
      obtain ⟨pg, hpg⟩ : ∃ pg, A.page raw = pg := ⟨_, rfl⟩
      rw [hpg] at hpage
      have HPG := Lib.hid hpg
      clear hpg
      have hcase : (1 ≤ raw ∧ raw ≤ 32 * (m : Int) ∧ pg = (raw - 1) / 32) ∨ (raw < 1 ∧ pg = -1) ∨ (1 ≤ raw ∧ 32 * (m : Int) < raw ∧ pg = -1) := by
        by_cases h : 1 ≤ raw ∧ raw ≤ 32 * (m : Int)
        · rw [if_pos h] at hpage; exact .inl ⟨h.1, h.2, hpage⟩
        · rw [if_neg h] at hpage
          by_cases h1 : raw < 1
          · exact .inr (.inl ⟨h1, hpage⟩)
          · exact .inr (.inr ⟨by omega, by omega, hpage⟩)
      clear hpage
      have hw2 : 1 ≤ raw → IntKind.i64.wrap (raw - 1) = raw - 1 := fun h => by rw [IntKind.wrap_i64]; omega
      have hcase2 : (1 ≤ raw ∧ raw ≤ 32 * (m : Int) ∧ pg = (raw - 1) / 32 ∧ 0 ≤ raw - 1 ∧ 0 ≤ (raw - 1) / 32) ∨ (raw < 1 ∧ pg = -1) ∨ (1 ≤ raw ∧ 32 * (m : Int) < raw ∧ pg = -1) := by
        rcases hcase with ⟨h1, h2, h3⟩ | h | h
        · exact .inl ⟨h1, h2, h3, by omega, by omega⟩
        · exact .inr (.inl h)
        · exact .inr (.inr h)
      have HCASE := Lib.hid hcase
      clear hcase
      rcases hcase2 with ⟨h1, h2, rfl, h3, h4⟩ | ⟨h1, rfl⟩ | ⟨h1, h2, rfl⟩
      all_goals
        gi_wp2_with (first | (gi_at_call 27; refine (calls_in (TAPage HS.out 0 rfl raw hr63)).mono ?_; rw [HPG.out]; rintro e w' ⟨rfl, rfl⟩) | (gi_at_call 35; refine (calls_in (TAAll (HS.out.box #[.bool false] 4) a)).mono ?_; rintro e w4 ⟨rfl, hs⟩; have HS4 := Lib.hid hs; clear hs))
        have hS5 := HS4.out.front 4 [0, 2]
        simp only [World.size_alloc] at hS5 ⊢
        obtain ⟨T, hT⟩ : ∃ T, wr.heap.size = T := ⟨_, rfl⟩
        rw [hT] at hS5 ⊢
        have HS5 := Lib.hid (show Sep w w4 (blkR (T + 1) 23 #[.pointer (some ⟨a, 0, none⟩)] :: arenaR a A :: blkR T 4 #[.bool false] :: blkR w.heap.size 26 #[.int .i64 raw] :: []) from hS5)
        clear hT hS5 HS4
        refine wp_range (gf := 54) (lb := #[.pointer (some ⟨T + 1, 0, none⟩)]) rfl (enters_of Try.func54 (by kernel_rfl) rfl) (arena_iter (T + 1) a A) (fun _ => rfl) HS5.out
          (fun pre Rs => Rs = [blkR T 4 #[.bool (pre.any fun r => (r : Int) == raw)], blkR w.heap.size 26 #[.int .i64 raw]]) (fun _ _ _ => False) rfl ?round ?done ?stop
        case stop => rintro _ _ _ _ _ _ h; exact h.elim
        case round =>
          rintro l1 D pre x _ G W1 r hpre rfl hS1
          simp only [List.cons_append, List.nil_append] at hS1
          have HS1 := Lib.hid hS1
          clear hpre hS1 HS5
          gi_wp2
          refine ⟨[], HS1.out, ?_⟩
          intro r' W2 hS2
          simp only [List.cons_append, List.nil_append] at hS2
          have ht0 := (hS2.blk 4 rfl).cell 0
          have hf0 := (hS2.blk 4 rfl).frozen 0
          have hr0 := (hS2.blk 5 rfl).cell 0
          simp only [List.getElem?_toArray, List.getElem?_cons_zero] at ht0 hr0
          have HS2 := Lib.hid hS2
          have hany : (pre ++ [x]).any (fun r => (r : Int) == raw) = ((pre.any fun r => (r : Int) == raw) || ((x : Int) == raw)) := by simp
          have HANY := Lib.hid hany
          clear hS2 hany
          generalize (pre.any fun r => (r : Int) == raw) = B0 at *
          cases B0
          · gi_wp2
            refine ⟨_, rfl, ?_⟩
            rw [HANY.out]
            exact HS2.out.setCell 4 rfl 0 _
          · gi_wp2
            refine ⟨_, rfl, ?_⟩
            rw [HANY.out]
            exact HS2.out.setCell 4 rfl 0 _
        case done =>
          rintro D _ W1 rfl hS1
          simp only [List.cons_append, List.nil_append] at hS1
          rw [any_elems HWF.out raw] at hS1
          have hp0 : A.has raw = true → 0 ≤ A.clsZ (A.page raw) := fun h => has_cls HWF.out h
          rw [HPG.out] at hp0
          have HP0 := Lib.hid hp0
          have HGH := Lib.hid (give_has HWF.out raw)
          have ht0 := (hS1.blk 3 rfl).cell 0
          have hr0 := (hS1.blk 4 rfl).cell 0
          simp only [List.getElem?_toArray, List.getElem?_cons_zero] at ht0 hr0
          have HS6 := Lib.hid hS1
          obtain ⟨B1, hB1⟩ : ∃ B1, A.has raw = B1 := ⟨_, rfl⟩
          rw [hB1] at ht0 HP0
          have HB1 := Lib.hid hB1
          clear hS1 hp0 hB1
          have hro : Try.prog.follows .mixedOrders = true := by kernel_rfl
          cases B1
          · gi_wp2
            refine calm ?_
            gi_region_with_o (gi_at_call 36; refine (calls_in (TAHas HS6.out.drew 1 rfl raw)).mono ?_; rw [HB1.out]; rintro e w5 ⟨rfl, hs⟩; have hq0 := (hs.blk 3 rfl).cell 0; have hq1 := (hs.blk 4 rfl).cell 0; simp only [List.getElem?_toArray, List.getElem?_cons_zero] at hq0 hq1; have HS7 := Lib.hid hs; clear hs)
            all_goals
              have hwz : A.wordZ raw 0 = 0 := by unfold AR.wordZ AR.okW; rw [HB1.out]; rfl
              have hok : A.okW raw 0 = false := by unfold AR.okW; rw [HB1.out]; rfl
              have hst : A.setW raw 0 5 = A := by unfold AR.setW; rw [hok]; rfl
              have HWZ := Lib.hid hwz
              have HOK := Lib.hid hok
              have HST := Lib.hid hst
              clear hwz hok hst
              gi_wp2_with (first
                | (gi_at_call 37; refine (calls_in (TAWord HS7.out 1 rfl HWF.out raw 0 hr63)).mono ?_; rw [HWZ.out]; rintro e w6 ⟨rfl, hs⟩; have hv0 := (hs.blk 4 rfl).cell 0; simp only [List.getElem?_toArray, List.getElem?_cons_zero] at hv0; have HS8 := Lib.hid hs; clear hs)
                | (gi_at_call 38; refine (calls_in (TASet HS8.out 1 rfl HWF.out raw 0 5 hr63)).mono ?_; rw [HOK.out, HST.out]; rintro e w7 ⟨rfl, hs⟩; have hu0 := (hs.blk 4 rfl).cell 0; simp only [List.getElem?_toArray, List.getElem?_cons_zero] at hu0; have HS9 := Lib.hid hs; clear hs)
                | (gi_at_call 24; refine (calls_in (TAGive HS9.out 1 rfl HWF.out raw)).mono ?_; rw [HB1.out]; rintro e w8 ⟨rfl, hs⟩; have HS10 := Lib.hid hs; clear hs))
              refine leaves_mark HS10.out (i := 2) rfl (fun _ => results_tmp rfl _ _ _) ?_
              intro w' hS
              exact ⟨rfl, hS.below⟩
          · gi_wp2
            refine calm ?_
            gi_region_with_o (gi_at_call 36; refine (calls_in (TAHas HS6.out.drew 1 rfl raw)).mono ?_; rw [HB1.out]; rintro e w5 ⟨rfl, hs⟩; have hq0 := (hs.blk 3 rfl).cell 0; have hq1 := (hs.blk 4 rfl).cell 0; simp only [List.getElem?_toArray, List.getElem?_cons_zero] at hq0 hq1; have HS7 := Lib.hid hs; clear hs)
            all_goals
              have hp1 := HP0.out (by first | rfl | trivial)
              have hwg := Lib.hid (HWF.out.give_wf raw)
              gi_wp2_with (first
                | (gi_at_call 26; refine (calls_in (TAClass HS7.out 1 rfl _)).mono ?_; rintro e w' ⟨rfl, rfl⟩)
                | (gi_at_call 24; refine (calls_in (TAGive HS7.out 1 rfl HWF.out raw)).mono ?_; rw [HB1.out]; rintro e w6 ⟨rfl, hs⟩; have hv0 := (hs.blk 4 rfl).cell 0; simp only [List.getElem?_toArray, List.getElem?_cons_zero] at hv0; have HS8 := Lib.hid hs; clear hs)
                | (gi_at_call 36; refine (calls_in (TAHas HS8.out 1 rfl raw)).mono ?_; rw [HGH.out]; rintro e w7 ⟨rfl, hs⟩; have HS9 := Lib.hid hs; clear hs))
              all_goals
                refine leaves_mark HS9.out (i := 2) rfl (fun _ => results_tmp rfl _ _ _) ?_
                intro w' hS
                exact ⟨rfl, hS.below⟩
end Go.Proofs.Ytapbphbnffggnaa
