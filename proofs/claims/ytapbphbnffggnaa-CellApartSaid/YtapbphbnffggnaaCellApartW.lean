/-
  The walk of CellApart. Conditions: as the theorem says.
-/
import Derived.Test.YtapbphbnffggnaaOpen
import Derived.Test.YtapbphbnffggnaaFit04
import Derived.Test.YtapbphbnffggnaaObjC
import Derived.Test.YtapbphbnffggnaaRow
import Derived.Test.YtapbphbnffggnaaInfo
import Derived.Test.YtapbphbnffggnaaBits
import Derived.Test.YtapbphbnffggnaaResultM
import Derived.Test.YtapbphbnffggnaaQuiet
namespace Go.Proofs.Ytapbphbnffggnaa
set_option linter.unusedVariables false
set_option linter.unusedSimpArgs false
open Go.RowKit Go.Shelf
attribute [local go_sem] Oper.semAt_some wide_fn round_fn wide_depth round_depth
attribute [local simp] wide_fn round_fn wide_depth round_depth

/-- A number of an object as the program's value. -/
def encA (x : Nat) : Value := .int .i64 ((x : Nat) : Int)
/-- k fields, of which the first i hold s. -/
def fillA (k i : Nat) (s : Int) : List Int := (List.range k).map fun j => if j < i then s else 0
theorem fillA_zero (k : Nat) (s : Int) : fillA k 0 s = List.replicate k 0 := by
  unfold fillA
  apply List.ext_getElem <;> simp
theorem fillA_all (k : Nat) (s : Int) : fillA k k s = List.replicate k s := by
  unfold fillA
  apply List.ext_getElem
  · simp
  · intro j h1 h2
    simp at h1
    simp [h1]
theorem fillA_length (k i : Nat) (s : Int) : (fillA k i s).length = k := by simp [fillA]
theorem fillA_set (k i : Nat) (s : Int) : (fillA k i s).set i s = fillA k (i + 1) s := by
  unfold fillA
  apply List.ext_getElem
  · simp
  · intro j h1 h2
    simp [List.getElem_set]
    by_cases e : i = j
    · subst e; simp
    · simp [e]
      by_cases e2 : j < i
      · simp [e2]; omega
      · simp [e2]; omega

set_option maxRecDepth 100000 in
set_option maxHeartbeats 8000000 in
theorem cellApart_walk (A : Option Addr) (n c : Nat) (D : Nat → Nat → Int) (at_ xv : Int) (w : World) (hz : ArgI w A n [.u8] D) (hm : n ≤ maxLen) (h1 : (Lit.int .i64 at_).wf = true) (h2 : (Lit.int .i64 xv).wf = true) :
    Calls Try.prog 14 #[.slice A n c, .int .i64 at_, .int .i64 xv] w fun e w' => e = .returned (.bool true) ∧ Below w.heap.size w w' := by
  have HZ := Lib.hid hz
  unfold maxLen at hm
  have hand := and_65535 at_
  clear hz h1 h2
  refine calls_wide ?_
  refine callsIn_of_wp_marks Try.func14 rfl trivial ?_
  simp only [Try.ntmps14, List.size_toArray, List.length_cons, List.length_nil, Nat.reduceAdd, Nat.reduceSub, Array.replicate_succ, Array.replicate_zero, List.push_toArray, List.append_toArray, List.nil_append, List.cons_append]
  have HSI := Lib.hid ((Sep.start w).box #[.bool false] 4)
  by_cases hn : 30 < n
  · gi_wp2_with (gi_at_call 39; refine (calls_in (fit04 _)).mono ?_; rintro e w1 ⟨rfl, hC⟩; have hs := HSI.out.same hC; clear hC; have q0 := (hs.blk 0 rfl).cell 0; have fq0 := (hs.blk 0 rfl).frozen 0; simp only [List.getElem?_toArray, List.getElem?_cons_zero, List.getElem?_cons_succ] at q0; have HS0 := Lib.hid hs; clear hs HSI)
    exact leaves_box0 (HS0.out.setCell 0 rfl 0 (.bool true)) 0 rfl rfl rfl ⟨rfl, (HS0.out.setCell 0 rfl 0 (.bool true)).below⟩
  by_cases hn0 : n = 0
  · subst hn0
    gi_wp2_with (gi_at_call 39; refine (calls_in (fit04 _)).mono ?_; rintro e w1 ⟨rfl, hC⟩; have hs := HSI.out.same hC; clear hC; have q0 := (hs.blk 0 rfl).cell 0; have fq0 := (hs.blk 0 rfl).frozen 0; simp only [List.getElem?_toArray, List.getElem?_cons_zero, List.getElem?_cons_succ] at q0; have HS0 := Lib.hid hs; clear hs HSI)
    exact leaves_box0 (HS0.out.setCell 0 rfl 0 (.bool true)) 0 rfl rfl rfl ⟨rfl, (HS0.out.setCell 0 rfl 0 (.bool true)).below⟩
  have hnI : (n : Int) ≤ 30 := by omega
  have hnz : ¬ (n : Int) = 0 := by omega
  have hnz2 : ((n : Int) == 0) = false := by simpa using hnz
  gi_wp2_with (first
    | (gi_at_call 39; refine (calls_in (fit04 _)).mono ?_; rintro e w1 ⟨rfl, hC⟩; have HS0 := Lib.hid (HSI.out.same hC); clear hC HSI)
    | (gi_at_call 18; refine (calls_in (TANew HS0.out 64 64 (by decide))).mono ?_; rintro e w2 ⟨a, ids, rfl, hs⟩; have HS2 := Lib.hid hs; clear hs HS0; have HW := Lib.hid (AR.new_wf 64 ids (by omega)); have HT := Lib.hid (new_total 64 ids (by omega))))
  obtain ⟨b0, hb0⟩ : ∃ b0, w.heap.size = b0 := ⟨_, rfl⟩
  have hs : Sep w w2 (arenaR a (AR.new 64 ids) :: rowR 26 1 (.slice none 0 0) 0 (([] : List Nat).map encA) :: blkR b0 4 #[.bool false] :: []) := by
    rw [← hb0]
    exact (HS2.out.nilRow 26 1).swap
  simp only [hb0]
  have HS3 := Lib.hid hs
  clear hs hb0 HS2
  gi_loopw [8, 33] (fun v i wr => ∃ (k : Nat) (rs : List Nat) (B : AR), k ≤ n ∧ i = .int .i64 k ∧ rs.length = k ∧ B.Wf ∧ B.n = 64 ∧ B.total = (k : Int) ∧ (∀ (x r : Nat), rs[x]? = some r → Obj B r (List.replicate (D x 0 % 7).toNat 0) (x : Int)) ∧ Sep w wr (arenaR a B :: rowR 26 1 v k (rs.map encA) :: blkR b0 4 #[.bool false] :: [])) (fun _ i _ => n + 1 - (intOf i).toNat)
  case atStart => exact ⟨0, [], _, by omega, rfl, rfl, HW.out, HT.out.2.1, by rw [HT.out.1]; rfl, by simp, HS3.out⟩
  case round =>
    clear HS3 HW HT
    obtain ⟨k, rs, B, hk, rfl, hrs, hwf, hbn, ht, hob, hs⟩ := hrel
    obtain ⟨AA, cap, rfl, hcap, hcm⟩ := hs.rowShape 1 rfl
    unfold maxLen at hcm
    have g00 := (hs.blk 2 rfl).cell 0
    have fg00 := (hs.blk 2 rfl).frozen 0
    simp only [List.getElem?_toArray, List.getElem?_cons_zero] at g00
    have hown := hs.own
    have HS := Lib.hid hs
    have HW := Lib.hid hwf
    have HN := Lib.hid hbn
    have HT := Lib.hid ht
    have HOB := Lib.hid hob
    have HRS := Lib.hid hrs
    clear hs hwf hbn ht hob hrs
    by_cases hlt : k < n
    · obtain ⟨ab, ao, rfl, hcell⟩ := HZ.out.at_ hown hlt
      have hc0 := hcell 0 _ rfl
      have hw8 := wf8 (HZ.out.wf hlt 0 _ rfl)
      simp at hc0
      obtain ⟨kk, hkk, hkk6⟩ : ∃ kk : Nat, D k 0 % 7 = (kk : Int) ∧ kk ≤ 6 := ⟨(D k 0 % 7).toNat, by omega, by omega⟩
      obtain ⟨d, hd⟩ : ∃ d, D k 0 = d := ⟨_, rfl⟩
      have HKF := Lib.hid (show (D k 0 % 7).toNat = kk by omega)
      rw [hd] at hc0 hw8 hkk
      clear hcell hd hown
      have HC := Lib.hid (ONew HS.out 0 rfl HW.out kk hkk6 (by rw [HN.out, HT.out]; omega))
      gi_wp2_with (first
        | (gi_at_call 46; refine (calls_in (HC.out)).mono ?_; rintro e w5 ⟨r, B1, rfl, hs, hN⟩; have HS6 := Lib.hid hs; clear hs HS HC; have HN1 := Lib.hid hN; clear hN; have HC := Lib.hid (OSetScalar HS6.out 0 rfl HN1.out.wf HN1.out.obj (k : Int)))
        | (gi_at_call 45; refine (calls_in (HC.out)).mono ?_; rintro e w6 ⟨B2, rfl, hs, hst, ho⟩; have g00 := (hs.blk 2 rfl).cell 0; have fg00 := (hs.blk 2 rfl).frozen 0; simp only [List.getElem?_toArray, List.getElem?_cons_zero] at g00; have HS7 := Lib.hid hs; clear hs HS6 HC; have HST := Lib.hid hst; have HO := Lib.hid ho; clear hst ho)
        | (gi_at_builtin; refine wpListIn_append_sep rfl _ _ 32 rfl 26 (.int .i64 0) 1 8 Try.underlying32 refInfo rfl (by decide) HS7.out 1 rfl rfl [.int .i64 ((r : Nat) : Int)] rfl (by simp [Value.oneCell']) rfl (by unfold maxLen; omega) (by omega) ?_; intro g4 cap4 w4 hcap4 hcm4 hs4; have HS8 := Lib.hid hs4; clear hs4 HS7))
      go_roundw
      case rel =>
        refine ⟨k + 1, rs ++ [r], B2, by omega, by go_num, by simp [HRS.out], HST.out.wf, (HST.out.n.trans HN1.out.n).trans HN.out, by rw [HST.out.total, HN1.out.total, HT.out]; simp, ?_, by simpa [encA] using HS8.out⟩
        intro x r' hx
        rw [List.getElem?_append, HRS.out] at hx
        by_cases e : x < k
        · rw [if_pos e] at hx
          obtain ⟨o1, o2⟩ := HN1.out.old _ _ _ (HOB.out x r' hx)
          exact HST.out.old _ _ _ o2 o1
        · rw [if_neg e] at hx
          have hx0 : x - k = 0 := by
            have := (List.getElem?_eq_some_iff.1 hx).1
            simp at this
            omega
          rw [hx0] at hx
          simp at hx
          subst hx
          obtain rfl : x = k := by omega
          rw [HKF.out]
          exact HO.out
      case measure => simp [intOf]; omega
    · obtain rfl : k = n := by omega
      obtain ⟨g, cap', hsl, _, _⟩ := HS.out.rowSome 1 rfl (by omega)
      simp only [Value.slice.injEq] at hsl
      obtain ⟨rfl, _, rfl⟩ := hsl
      obtain ⟨K, hK, hKn⟩ : ∃ K : Nat, (at_ % 65536).tmod (k : Int) = (K : Int) ∧ K < k := by
        have h1 := Int.emod_nonneg (at_ % 65536) hnz
        have h2 := Int.emod_lt_of_pos (at_ % 65536) (show (0 : Int) < (k : Int) by omega)
        refine ⟨((at_ % 65536) % (k : Int)).toNat, ?_, by omega⟩
        rw [Int.tmod_eq_emod_of_nonneg (by omega)]
        omega
      obtain ⟨q, hq⟩ : ∃ q, rs[K]? = some q := ⟨_, List.getElem?_eq_getElem (by rw [HRS.out]; exact hKn)⟩
      have hKI : (K : Int) < (k : Int) := by omega
      have hK0 : (0 : Int) ≤ (K : Int) := by omega
      have HOQ := Lib.hid (HOB.out K q hq)
      have HQ := Lib.hid hq
      obtain ⟨ab, ao, rfl, hcell⟩ := HZ.out.at_ hown hKn
      have hw8 := wf8 (HZ.out.wf hKn 0 _ rfl)
      obtain ⟨kk, hkk, hkk6⟩ : ∃ kk : Nat, D K 0 % 7 = (kk : Int) ∧ kk ≤ 6 := ⟨(D K 0 % 7).toNat, by omega, by omega⟩
      obtain ⟨d, hd⟩ : ∃ d, D K 0 = d := ⟨_, rfl⟩
      have HKF := Lib.hid (show (D K 0 % 7).toNat = kk by omega)
      rw [hd] at hw8 hkk
      obtain ⟨T, hT⟩ : ∃ T, wr.heap.size = T := ⟨_, rfl⟩
      have hs : Sep w (wr.alloc (.cells #[.int .i64 (K : Int)] 3)) (blkR T 3 #[.int .i64 (K : Int)] :: arenaR a B :: rowR 26 1 (.slice (some ⟨g, 0, none⟩) k cap) k (rs.map encA) :: blkR b0 4 #[.bool false] :: []) := by
        rw [← hT]
        exact HS.out.box _ _
      have hcr := hs.rowCell 2 rfl K (encA q) (by rw [List.getElem?_map, hq]; rfl)
      unfold encA at hcr
      have HS2 := Lib.hid hs
      have HC := Lib.hid (OSetScalar hs 1 rfl HW.out HOQ.out xv)
      clear hcell hown hq hs HS
      gi_wp2_with (gi_at_call 45; refine (calls_in (HC.out)).mono ?_; rintro e w6 ⟨B2, rfl, hs, hst, ho⟩; obtain ⟨_, _, e1, hcell⟩ := HZ.out.at_ hs.own hKn; cases e1; have hc0 := hcell 0 _ rfl; simp at hc0; rw [hd] at hc0; clear hcell; have t0 := (hs.blk 0 rfl).cell 0; have ft0 := (hs.blk 0 rfl).frozen 0; have g00 := (hs.blk 3 rfl).cell 0; have fg00 := (hs.blk 3 rfl).frozen 0; simp only [List.getElem?_toArray, List.getElem?_cons_zero, List.getElem?_cons_succ] at t0 g00; have HS7 := Lib.hid hs; clear hs HS2 HC hd; have HST := Lib.hid hst; have HO := Lib.hid ho; clear hst ho)
      have HDIF := Lib.hid (show ∀ (y r' : Nat), rs[y]? = some r' → y ≠ K → r' ≠ q by
        intro y r' h1 h2 e
        subst e
        have e1 := (HOB.out y r' h1).scalar
        rw [HOQ.out.scalar] at e1
        omega)
      have HOT := Lib.hid (show ∀ (y r' : Nat), rs[y]? = some r' → y ≠ K → Obj B2 r' (List.replicate (D y 0 % 7).toNat 0) (y : Int) from fun y r' h1 h2 => HST.out.old _ _ _ (HDIF.out y r' h1 h2) (HOB.out y r' h1))
      have HO2 := Lib.hid (show Obj B2 q (fillA kk 0 (q : Int)) xv by
        have := HO.out
        rw [HKF.out] at this
        rw [fillA_zero]
        exact this)
      have HW2 := Lib.hid HST.out.wf
      clear HST HO HOB HT HOQ HW
      have hLL : Sep w w6 (blkR T 3 #[.int .i64 (K : Int)] :: arenaR a B2 :: rowR 26 1 (.slice (some ⟨g, 0, none⟩) k cap) k (rs.map encA) :: blkR b0 4 #[.bool false] :: []) := HS7.out
      have HS8 := Lib.hid hLL
      clear hLL HS7 hc0 hw8 hT
      try simp only [hkk]
      gi_loopw [75] (fun i wr => ∃ (m : Nat) (B : AR), m ≤ kk ∧ i = .int .i64 m ∧ B.Wf ∧ Obj B q (fillA kk m (q : Int)) xv ∧ (∀ (y r' : Nat), rs[y]? = some r' → y ≠ K → Obj B r' (List.replicate (D y 0 % 7).toNat 0) (y : Int)) ∧ Sep w wr (blkR T 3 #[.int .i64 (K : Int)] :: arenaR a B :: rowR 26 1 (.slice (some ⟨g, 0, none⟩) k cap) k (rs.map encA) :: blkR b0 4 #[.bool false] :: [])) (fun i _ => kk + 1 - (intOf i).toNat)
      case atStart => exact ⟨0, _, by omega, rfl, HW2.out, HO2.out, HOT.out, HS8.out⟩
      case round =>
        clear HS8 HW2 HO2 HOT t0 ft0 g00 fg00
        obtain ⟨m, B, hm, rfl, hwf, ho, hot, hs⟩ := hrel
        have t0 := (hs.drew.blk 0 rfl).cell 0
        have ft0 := (hs.drew.blk 0 rfl).frozen 0
        have g00 := (hs.drew.blk 3 rfl).cell 0
        have fg00 := (hs.drew.blk 3 rfl).frozen 0
        simp only [List.getElem?_toArray, List.getElem?_cons_zero, List.getElem?_cons_succ] at t0 g00
        have hcr := hs.drew.rowCell 2 rfl K (encA q) (by rw [List.getElem?_map, HQ.out]; rfl)
        unfold encA at hcr
        have HW := Lib.hid hwf
        have HO := Lib.hid ho
        have HOT := Lib.hid hot
        by_cases hlt : m < kk
        · have hltI : (m : Int) < (kk : Int) := by omega
          have HS := Lib.hid hs.drew
          have HC := Lib.hid (OSetField HS.out 1 rfl HW.out HO.out m (by rw [fillA_length]; omega) (q : Int))
          clear hs hwf ho hot
          gi_wp2
          have hro : Try.prog.follows .mixedOrders = true := by kernel_rfl
          refine calm ?_
          gi_region_with_o (gi_at_call 44; refine (calls_in HC.out).mono ?_; rintro e w5 ⟨B', rfl, hs, hst, ho⟩; have HS9 := Lib.hid hs; have HST := Lib.hid hst; have HO' := Lib.hid ho; clear hs hst ho)
          all_goals
            gi_wp2
            refine ⟨?_, ?_⟩
            · exact ⟨m + 1, B', by omega, by go_num, HST.out.wf, by rw [← fillA_set]; exact HO'.out, fun y r' h1 h2 => HST.out.old _ _ _ (HDIF.out y r' h1 h2) (HOT.out y r' h1 h2), HS9.out⟩
            · simp [intOf]; omega
        · obtain rfl : m = kk := by omega
          have HS := Lib.hid hs
          have HO2 := Lib.hid (show Obj B q (List.replicate m (q : Int)) xv by rw [← fillA_all]; exact ho)
          clear hs hwf ho hot HO hcr t0 ft0 g00 fg00
          gi_wp2
          have HSM := Lib.hid (show Sep w wr (marksR [] :: blkR T 3 #[.int .i64 (K : Int)] :: arenaR a B :: rowR 26 1 (.slice (some ⟨g, 0, none⟩) k cap) k (rs.map encA) :: blkR b0 4 #[.bool false] :: []) from HS.out.noMarks)
          refine wpIn_loopM (Ds := []) [15, 16, 17, 18, 92, 93, 94, 95, 96, 97, 98, 99, 100, 101, 102, 103, 104, 105, 106, 107, 108, 109, 110, 111, 112, 113, 114, 115, 116, 117, 118, 119, 120, 121, 122, 123, 124, 125, 126, 127, 128, 129, 130, 131, 132, 133, 134, 135, 136, 137, 138, 139, 149] (fun v Ds wr => ∃ j : Nat, j ≤ k ∧ v 92 = .int .i64 j ∧ Sep w wr (marksR Ds :: blkR T 3 #[.int .i64 (K : Int)] :: arenaR a B :: rowR 26 1 (.slice (some ⟨g, 0, none⟩) k cap) k (rs.map encA) :: blkR b0 4 #[.bool false] :: [])) (fun v _ => k + 1 - (intOf (v 92)).toNat) ⟨0, by omega, rfl, HSM.out⟩ (by kernel_rfl) ?_
          clear HS HSM
          rintro v Ds wr ⟨j, hj, hv, hs⟩
          simp only [setS, List.foldl_cons, List.foldl_nil, List.setIfInBounds_toArray, List.set_cons_succ, List.set_cons_zero]
          simp only [hv]
          by_cases hlt : j < k
          · obtain ⟨r, hr⟩ : ∃ r, rs[j]? = some r := ⟨_, List.getElem?_eq_getElem (by rw [HRS.out]; exact hlt)⟩
            obtain ⟨T2, hT2⟩ : ∃ T2, wr.heap.size = T2 := ⟨_, rfl⟩
            have hc2 := hs.rowCell 3 rfl j (encA r) (by rw [List.getElem?_map, hr]; rfl)
            unfold encA at hc2
            have hltI : (j : Int) < (k : Int) := by omega
            have hj0 : (0 : Int) ≤ (j : Int) := by omega
            obtain ⟨_, _, e1, hcell⟩ := HZ.out.at_ hs.own hlt
            have hw8 := wf8 (HZ.out.wf hlt 0 _ rfl)
            obtain ⟨kj, hkj, hkj6⟩ : ∃ kj : Nat, D j 0 % 7 = (kj : Int) ∧ kj ≤ 6 := ⟨(D j 0 % 7).toNat, by omega, by omega⟩
            obtain ⟨dj, hdj⟩ : ∃ d, D j 0 = d := ⟨_, rfl⟩
            have hkf : (D j 0 % 7).toNat = kj := by omega
            rw [hdj] at hw8 hkj
            have HDJ := Lib.hid hdj
            have HLT := Lib.hid hlt
            cases e1
            by_cases ejk : j = K
            · subst ejk
              obtain rfl : r = q := by have := HQ.out; rw [hr] at this; exact Option.some.inj this
              have ho := HO2.out
              have hpt : ∀ x ∈ (List.replicate m (r : Int)).filter (fun v => !(v == 0)), x = (r : Int) := by
                intro x hx
                rw [List.mem_filter, List.mem_replicate] at hx
                exact hx.1.2
              obtain rfl : kj = m := by have := HKF.out; omega
              have HOJ := Lib.hid ho
              have HPT := Lib.hid hpt
              have hs2 := (hs.box #[.int .i64 (j : Int)] 3).box #[.int .i64 (r : Int)] 26
              rw [World.size_alloc, hT2] at hs2
              have HS2 := Lib.hid hs2
              have HC := Lib.hid (OScalar hs2 4 rfl HW.out ho)
              clear hs hs2 ho hpt hr hcell hdj hkf
              gi_wp2_with (gi_at_call 43; refine (calls_in (HC.out)).mono ?_; rintro e w5 ⟨rfl, hs⟩; have p0 := (hs.blk 0 rfl).cell 0; have s0 := (hs.blk 1 rfl).cell 0; have t0 := (hs.blk 3 rfl).cell 0; simp only [List.getElem?_toArray, List.getElem?_cons_zero, List.getElem?_cons_succ] at p0 s0 t0; have HS6 := Lib.hid hs; clear hs HS2 HC)
              refine regionIn_sep HS6.out (by kernel_rfl) (by kernel_rfl) ?_
              intro hne0
              have yr : ∀ x : SepW w (blkR (T2 + 1) 26 #[.int .i64 (r : Int)] :: blkR T2 3 #[.int .i64 (j : Int)] :: marksR Ds :: blkR T 3 #[.int .i64 (j : Int)] :: arenaR a B :: rowR 26 1 (.slice (some ⟨g, 0, none⟩) k cap) k (rs.map encA) :: blkR b0 4 #[.bool false] :: []), x.w'.cell? ⟨T2 + 1, 0, none⟩ = some (.int .i64 (r : Int)) := fun x => by
                have := (x.h.blk 0 rfl).cell 0
                simpa using this
              have yj : ∀ x : SepW w (blkR (T2 + 1) 26 #[.int .i64 (r : Int)] :: blkR T2 3 #[.int .i64 (j : Int)] :: marksR Ds :: blkR T 3 #[.int .i64 (j : Int)] :: arenaR a B :: rowR 26 1 (.slice (some ⟨g, 0, none⟩) k cap) k (rs.map encA) :: blkR b0 4 #[.bool false] :: []), x.w'.cell? ⟨T2, 0, none⟩ = some (.int .i64 (j : Int)) := fun x => by
                have := (x.h.blk 1 rfl).cell 0
                simpa using this
              have yk : ∀ x : SepW w (blkR (T2 + 1) 26 #[.int .i64 (r : Int)] :: blkR T2 3 #[.int .i64 (j : Int)] :: marksR Ds :: blkR T 3 #[.int .i64 (j : Int)] :: arenaR a B :: rowR 26 1 (.slice (some ⟨g, 0, none⟩) k cap) k (rs.map encA) :: blkR b0 4 #[.bool false] :: []), x.w'.cell? ⟨T, 0, none⟩ = some (.int .i64 (j : Int)) := fun x => by
                have := (x.h.blk 3 rfl).cell 0
                simpa using this
              have ya : ∀ x : SepW w (blkR (T2 + 1) 26 #[.int .i64 (r : Int)] :: blkR T2 3 #[.int .i64 (j : Int)] :: marksR Ds :: blkR T 3 #[.int .i64 (j : Int)] :: arenaR a B :: rowR 26 1 (.slice (some ⟨g, 0, none⟩) k cap) k (rs.map encA) :: blkR b0 4 #[.bool false] :: []), x.w'.cell? ⟨ab, ao + j, none⟩ = some (.int .u8 dj) := fun x => by
                obtain ⟨_, _, e1, hcell⟩ := HZ.out.at_ x.h.own HLT.out
                cases e1
                have := hcell 0 _ rfl
                rw [HDJ.out] at this
                simpa using this
              repeat (gi_big_quiet_step (first
                | (gi_at_call 41; have hq := fun x : SepW w (blkR (T2 + 1) 26 #[.int .i64 (r : Int)] :: blkR T2 3 #[.int .i64 (j : Int)] :: marksR Ds :: blkR T 3 #[.int .i64 (j : Int)] :: arenaR a B :: rowR 26 1 (.slice (some ⟨g, 0, none⟩) k cap) k (rs.map encA) :: blkR b0 4 #[.bool false] :: []) => OFields x.h 4 rfl HW.out HOJ.out; simp only [List.length_replicate] at hq; exact sep_calls_in (hq _))))
              refine wpQuietIn_nil ?_
              rintro wq ⟨⟨wqx, hs⟩, rfl⟩
              clear yr yj yk ya hne0
              have HS7 := Lib.hid hs
              have p0 := (hs.blk 0 rfl).cell 0; have s0 := (hs.blk 1 rfl).cell 0; have t0 := (hs.blk 3 rfl).cell 0; simp only [List.getElem?_toArray, List.getElem?_cons_zero, List.getElem?_cons_succ] at p0 s0 t0
              have HC := Lib.hid (CPoints hs a (r : Int))
              obtain ⟨P2, hP2⟩ : ∃ P2, wq.heap.size = P2 := ⟨_, rfl⟩
              clear hs
              gi_wp2_with (gi_at_call 47; refine (calls_in (HC.out)).mono ?_; rintro e w8 ⟨rfl, hs⟩; try simp only [hP2] at hs; have HS8 := Lib.hid hs; clear hs HS7 HC)
              try simp only [hP2]
              have hs : Sep w w8 (blkR P2 23 #[.pointer (some ⟨a, 0, none⟩)] :: blkR (P2 + 1) 26 #[.int .i64 (r : Int)] :: arenaR a B :: marksR Ds :: blkR (T2 + 1) 26 #[.int .i64 (r : Int)] :: blkR T2 3 #[.int .i64 (j : Int)] :: blkR T 3 #[.int .i64 (j : Int)] :: rowR 26 1 (.slice (some ⟨g, 0, none⟩) k cap) k (rs.map encA) :: blkR b0 4 #[.bool false] :: []) := HS8.out.front 7 [1, 0, 6, 4, 2, 3, 5]
              have HS9 := Lib.hid (show Sep w w8 ([blkR P2 23 #[.pointer (some ⟨a, 0, none⟩)], blkR (P2 + 1) 26 #[.int .i64 (r : Int)], arenaR a B] ++ (marksR Ds :: blkR (T2 + 1) 26 #[.int .i64 (r : Int)] :: blkR T2 3 #[.int .i64 (j : Int)] :: blkR T 3 #[.int .i64 (j : Int)] :: rowR 26 1 (.slice (some ⟨g, 0, none⟩) k cap) k (rs.map encA) :: blkR b0 4 #[.bool false] :: [])) from hs)
              clear hs HS8 hP2
              refine wp_rangeM (gf := 60) (lb := #[.pointer (some ⟨P2, 0, none⟩), .pointer (some ⟨P2 + 1, 0, none⟩)]) rfl (enters_of Try.func60 (by kernel_rfl) rfl) (opoints_iter P2 (P2 + 1) a B HW.out HOJ.out) (fun _ => rfl) HS9.out
                (fun pre Rs => Rs = blkR (T2 + 1) 26 #[.int .i64 (r : Int)] :: blkR T2 3 #[.int .i64 (j : Int)] :: blkR T 3 #[.int .i64 (j : Int)] :: rowR 26 1 (.slice (some ⟨g, 0, none⟩) k cap) k (rs.map encA) :: blkR b0 4 #[.bool false] :: []) (fun _ _ _ => False) rfl ?round0 ?done0 ?stop0
              case stop0 => rintro _ _ _ _ _ _ h; exact h.elim
              case round0 =>
                rintro l1 pre x _ G V1 r1 hpre rfl hS1
                obtain rfl : x = (r : Int) := HPT.out x (hpre.subset (by simp))
                simp only [List.cons_append, List.nil_append] at hS1
                have HS1 := Lib.hid hS1
                clear hpre hS1 HS9
                gi_wp2
                refine ⟨[], HS1.out, ?_⟩
                intro r' V2 hS2
                simp only [List.cons_append, List.nil_append] at hS2
                have p0 := (hS2.blk 4 rfl).cell 0
                have s0 := (hS2.blk 5 rfl).cell 0
                have t0 := (hS2.blk 6 rfl).cell 0
                simp only [List.getElem?_toArray, List.getElem?_cons_zero, List.getElem?_cons_succ] at p0 s0 t0
                have HS2 := Lib.hid hS2
                clear hS2 HS1
                gi_wp2
                exact ⟨_, rfl, by simpa using HS2.out⟩
              case done0 =>
                rintro Ds2 _ V hR hS
                subst hR
                simp only [List.cons_append, List.nil_append] at hS
                have HSD := Lib.hid hS
                clear hS HS9
                gi_wp2
                refine ⟨Ds2, rfl, by kernel_rfl, ⟨j + 1, by omega, rfl, ?_⟩, ?_⟩
                · exact Sep.left (L := marksR Ds2 :: blkR T 3 #[.int .i64 (j : Int)] :: arenaR a B :: rowR 26 1 (.slice (some ⟨g, 0, none⟩) k cap) k (rs.map encA) :: blkR b0 4 #[.bool false] :: []) (R := [_, _, _, _]) (HSD.out.front 9 [3, 6, 2, 7, 8, 0, 1, 4, 5])
                · show k + 1 - (intOf (.int .i64 ((j : Int) + 1))).toNat < k + 1 - (intOf (.int .i64 (j : Int))).toNat
                  simp [intOf]
                  omega
            · have hjk : ¬ (j : Int) = (K : Int) := by omega
              have hjkb : ((j : Int) == (K : Int)) = false := by simpa using hjk
              have hjkc : ((j : Int) != (K : Int)) = true := by simpa using hjk
              have ho := HOT.out j r hr ejk
              rw [hkf] at ho
              have hpt : ∀ x ∈ (List.replicate kj (0 : Int)).filter (fun v => !(v == 0)), False := by
                intro x hx
                rw [List.mem_filter, List.mem_replicate] at hx
                rw [hx.1.2] at hx
                exact absurd hx.2 (by simp)
              have HOJ := Lib.hid ho
              have HPT := Lib.hid hpt
              have hs2 := (hs.box #[.int .i64 (j : Int)] 3).box #[.int .i64 (r : Int)] 26
              rw [World.size_alloc, hT2] at hs2
              have HS2 := Lib.hid hs2
              have HC := Lib.hid (OScalar hs2 4 rfl HW.out ho)
              clear hs hs2 ho hpt hr hcell hdj hkf
              gi_wp2_with (gi_at_call 43; refine (calls_in (HC.out)).mono ?_; rintro e w5 ⟨rfl, hs⟩; have p0 := (hs.blk 0 rfl).cell 0; have s0 := (hs.blk 1 rfl).cell 0; have t0 := (hs.blk 3 rfl).cell 0; simp only [List.getElem?_toArray, List.getElem?_cons_zero, List.getElem?_cons_succ] at p0 s0 t0; have HS6 := Lib.hid hs; clear hs HS2 HC)
              refine regionIn_sep HS6.out (by kernel_rfl) (by kernel_rfl) ?_
              intro hne0
              have yr : ∀ x : SepW w (blkR (T2 + 1) 26 #[.int .i64 (r : Int)] :: blkR T2 3 #[.int .i64 (j : Int)] :: marksR Ds :: blkR T 3 #[.int .i64 (K : Int)] :: arenaR a B :: rowR 26 1 (.slice (some ⟨g, 0, none⟩) k cap) k (rs.map encA) :: blkR b0 4 #[.bool false] :: []), x.w'.cell? ⟨T2 + 1, 0, none⟩ = some (.int .i64 (r : Int)) := fun x => by
                have := (x.h.blk 0 rfl).cell 0
                simpa using this
              have yj : ∀ x : SepW w (blkR (T2 + 1) 26 #[.int .i64 (r : Int)] :: blkR T2 3 #[.int .i64 (j : Int)] :: marksR Ds :: blkR T 3 #[.int .i64 (K : Int)] :: arenaR a B :: rowR 26 1 (.slice (some ⟨g, 0, none⟩) k cap) k (rs.map encA) :: blkR b0 4 #[.bool false] :: []), x.w'.cell? ⟨T2, 0, none⟩ = some (.int .i64 (j : Int)) := fun x => by
                have := (x.h.blk 1 rfl).cell 0
                simpa using this
              have yk : ∀ x : SepW w (blkR (T2 + 1) 26 #[.int .i64 (r : Int)] :: blkR T2 3 #[.int .i64 (j : Int)] :: marksR Ds :: blkR T 3 #[.int .i64 (K : Int)] :: arenaR a B :: rowR 26 1 (.slice (some ⟨g, 0, none⟩) k cap) k (rs.map encA) :: blkR b0 4 #[.bool false] :: []), x.w'.cell? ⟨T, 0, none⟩ = some (.int .i64 (K : Int)) := fun x => by
                have := (x.h.blk 3 rfl).cell 0
                simpa using this
              have ya : ∀ x : SepW w (blkR (T2 + 1) 26 #[.int .i64 (r : Int)] :: blkR T2 3 #[.int .i64 (j : Int)] :: marksR Ds :: blkR T 3 #[.int .i64 (K : Int)] :: arenaR a B :: rowR 26 1 (.slice (some ⟨g, 0, none⟩) k cap) k (rs.map encA) :: blkR b0 4 #[.bool false] :: []), x.w'.cell? ⟨ab, ao + j, none⟩ = some (.int .u8 dj) := fun x => by
                obtain ⟨_, _, e1, hcell⟩ := HZ.out.at_ x.h.own HLT.out
                cases e1
                have := hcell 0 _ rfl
                rw [HDJ.out] at this
                simpa using this
              repeat (gi_big_quiet_step (first
                | (gi_at_call 41; have hq := fun x : SepW w (blkR (T2 + 1) 26 #[.int .i64 (r : Int)] :: blkR T2 3 #[.int .i64 (j : Int)] :: marksR Ds :: blkR T 3 #[.int .i64 (K : Int)] :: arenaR a B :: rowR 26 1 (.slice (some ⟨g, 0, none⟩) k cap) k (rs.map encA) :: blkR b0 4 #[.bool false] :: []) => OFields x.h 4 rfl HW.out HOJ.out; simp only [List.length_replicate] at hq; exact sep_calls_in (hq _))))
              refine wpQuietIn_nil ?_
              rintro wq ⟨⟨wqx, hs⟩, rfl⟩
              clear yr yj yk ya hne0
              have HS7 := Lib.hid hs
              have p0 := (hs.blk 0 rfl).cell 0; have s0 := (hs.blk 1 rfl).cell 0; have t0 := (hs.blk 3 rfl).cell 0; simp only [List.getElem?_toArray, List.getElem?_cons_zero, List.getElem?_cons_succ] at p0 s0 t0
              have HC := Lib.hid (CPoints hs a (r : Int))
              obtain ⟨P2, hP2⟩ : ∃ P2, wq.heap.size = P2 := ⟨_, rfl⟩
              clear hs
              gi_wp2_with (gi_at_call 47; refine (calls_in (HC.out)).mono ?_; rintro e w8 ⟨rfl, hs⟩; try simp only [hP2] at hs; have HS8 := Lib.hid hs; clear hs HS7 HC)
              try simp only [hP2]
              have hs : Sep w w8 (blkR P2 23 #[.pointer (some ⟨a, 0, none⟩)] :: blkR (P2 + 1) 26 #[.int .i64 (r : Int)] :: arenaR a B :: marksR Ds :: blkR (T2 + 1) 26 #[.int .i64 (r : Int)] :: blkR T2 3 #[.int .i64 (j : Int)] :: blkR T 3 #[.int .i64 (K : Int)] :: rowR 26 1 (.slice (some ⟨g, 0, none⟩) k cap) k (rs.map encA) :: blkR b0 4 #[.bool false] :: []) := HS8.out.front 7 [1, 0, 6, 4, 2, 3, 5]
              have HS9 := Lib.hid (show Sep w w8 ([blkR P2 23 #[.pointer (some ⟨a, 0, none⟩)], blkR (P2 + 1) 26 #[.int .i64 (r : Int)], arenaR a B] ++ (marksR Ds :: blkR (T2 + 1) 26 #[.int .i64 (r : Int)] :: blkR T2 3 #[.int .i64 (j : Int)] :: blkR T 3 #[.int .i64 (K : Int)] :: rowR 26 1 (.slice (some ⟨g, 0, none⟩) k cap) k (rs.map encA) :: blkR b0 4 #[.bool false] :: [])) from hs)
              clear hs HS8 hP2
              refine wp_rangeM (gf := 60) (lb := #[.pointer (some ⟨P2, 0, none⟩), .pointer (some ⟨P2 + 1, 0, none⟩)]) rfl (enters_of Try.func60 (by kernel_rfl) rfl) (opoints_iter P2 (P2 + 1) a B HW.out HOJ.out) (fun _ => rfl) HS9.out
                (fun pre Rs => Rs = blkR (T2 + 1) 26 #[.int .i64 (r : Int)] :: blkR T2 3 #[.int .i64 (j : Int)] :: blkR T 3 #[.int .i64 (K : Int)] :: rowR 26 1 (.slice (some ⟨g, 0, none⟩) k cap) k (rs.map encA) :: blkR b0 4 #[.bool false] :: []) (fun _ _ _ => False) rfl ?round0 ?done0 ?stop0
              case stop0 => rintro _ _ _ _ _ _ h; exact h.elim
              case round0 =>
                rintro l1 pre x _ G V1 r1 hpre rfl hS1
                exact (HPT.out x (hpre.subset (by simp))).elim
              case done0 =>
                rintro Ds2 _ V hR hS
                subst hR
                simp only [List.cons_append, List.nil_append] at hS
                have HSD := Lib.hid hS
                clear hS HS9
                gi_wp2
                refine ⟨Ds2, rfl, by kernel_rfl, ⟨j + 1, by omega, rfl, ?_⟩, ?_⟩
                · exact Sep.left (L := marksR Ds2 :: blkR T 3 #[.int .i64 (K : Int)] :: arenaR a B :: rowR 26 1 (.slice (some ⟨g, 0, none⟩) k cap) k (rs.map encA) :: blkR b0 4 #[.bool false] :: []) (R := [_, _, _, _]) (HSD.out.front 9 [3, 6, 2, 7, 8, 0, 1, 4, 5])
                · show k + 1 - (intOf (.int .i64 ((j : Int) + 1))).toNat < k + 1 - (intOf (.int .i64 (j : Int))).toNat
                  simp [intOf]
                  omega
          · obtain rfl : j = k := by omega
            have hf0 := (hs.blk 4 rfl).frozen 0
            have hc0 := (hs.blk 4 rfl).cell 0
            simp only [List.getElem?_toArray, List.getElem?_cons_zero] at hc0
            have HS := Lib.hid hs
            clear hs
            gi_wp2
            exact leavesM_box (HS.out.setCell 4 rfl 0 (.bool true)) 3 rfl rfl rfl (fun w' hs => ⟨rfl, hs.below⟩)
end Go.Proofs.Ytapbphbnffggnaa
