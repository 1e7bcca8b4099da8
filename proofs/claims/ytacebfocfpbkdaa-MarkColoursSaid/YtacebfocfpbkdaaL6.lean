/-
  Parts of the proof, joined: MarkColoursW. Conditions: as each part says.
-/
import Derived.Test.YtacebfocfpbkdaaL5
import Derived.Test.YtacebfocfpbkdaaL1
import Derived.StillTailTactics
import Derived.Lib.Builder

/-
  The walk of MarkColours. Conditions: as the theorem says.
-/
namespace Go.Proofs.Ytacebfocfpbkdaa
set_option linter.unusedVariables false
set_option linter.unusedSimpArgs false
open Go.RowKit Go.Shelf Go.Maps
attribute [local go_sem] Oper.semAt_some wide_fn round_fn wide_depth round_depth
attribute [local simp] wide_fn round_fn wide_depth round_depth

theorem KRegreyNil (w : World) (m : Nat) : Calls Try.prog 45 #[.pointer (some ⟨m, 0, none⟩), .int .i64 0] w fun e w' => e = .returned (.bool false) ∧ w = w' := by
  go_enter Try.func45, Try.ntmps45
  go_wp2_with fail
  go_ret
  exact ⟨rfl, rfl⟩
theorem KBlackenNil (w : World) (m : Nat) : Calls Try.prog 21 #[.pointer (some ⟨m, 0, none⟩), .int .i64 0] w fun e w' => e = .returned (.tuple #[]) ∧ w = w' := by
  go_enter Try.func21, Try.ntmps21
  go_wp2_with fail
  go_end0
  exact ⟨rfl, rfl⟩
def lastN (pre : List Nat) : Nat := pre.getLastD 0
theorem arenaInfo : ∃ j, Try.prog.info? 99 = some j ∧ True := by
  obtain ⟨i, hi, _⟩ := Option.map_eq_some_iff.1 (show (Try.prog.info? 99).map (fun i => ()) = some () by kernel_rfl)
  exact ⟨i, hi, trivial⟩
theorem lastN_push (pre : List Nat) (x : Nat) : lastN (pre ++ [x]) = x := by simp [lastN]
theorem elems_next {n : Nat} {S : Nat → Bool} {pre : List Nat} {x : Nat} (h : (pre ++ [x]) <+: elems n S) (h0 : S 0 = false) : lastN pre < x := by
  have hp : (elems n S).Pairwise (· < ·) := List.Pairwise.filter _ List.pairwise_lt_range
  have hp2 := hp.sublist h.sublist
  have hx : x ∈ elems n S := h.subset (by simp)
  have hx0 : 0 < x := by
    rcases Nat.eq_zero_or_pos x with e | e
    · subst e; rw [mem_elems, h0] at hx; cases hx.2
    · exact e
  rw [List.pairwise_append] at hp2
  unfold lastN
  rcases List.eq_nil_or_concat pre with rfl | ⟨l, b, rfl⟩
  · simpa using hx0
  · have := hp2.2.2 b (by simp) x (by simp)
    simpa using this
theorem regrey_not {C : Col} {x : Nat} (h : C.sc x = false) : (Col.mk C.mz (fun z => C.sc z && !decide (z = x))) = C := by
  refine Col.ext (fun _ => rfl) (fun z => ?_)
  show (C.sc z && !decide (z = x)) = C.sc z
  by_cases e : z = x
  · subst e; simp [h]
  · simp [e]
theorem colN_re_self {C : Col} {x : Nat} (hm : C.mz x = true) : colN (Col.mk C.mz (fun z => C.sc z && !decide (z = x))) x = 1 := by simp [colN, hm]
theorem colN_re_other {C : Col} {x y : Nat} (h : y ≠ x) : colN (Col.mk C.mz (fun z => C.sc z && !decide (z = x))) y = colN C y := by simp [colN, h]
theorem sub_re {C : Col} (hs : ∀ x, C.sc x = true → C.mz x = true) (x : Nat) : ∀ z, (Col.mk C.mz (fun z => C.sc z && !decide (z = x))).sc z = true → (Col.mk C.mz (fun z => C.sc z && !decide (z = x))).mz z = true := by
  intro z hz
  have hz' : (C.sc z && !decide (z = x)) = true := hz
  simp only [Bool.and_eq_true] at hz'
  exact hs z hz'.1
theorem grey_colN {C : Col} (x : Nat) (hs : C.sc x = true → C.mz x = true) : C.grey x = decide (colN C x = 1) := by
  unfold Col.grey colN
  cases e : C.sc x <;> cases e2 : C.mz x <;> simp
theorem any_grey {C : Col} {rs : List Nat} (h : ∀ x, C.mz x = true → x ∈ rs) : rs.any C.grey = false ↔ ∀ x, C.grey x = false := by
  rw [List.any_eq_false]
  constructor
  · intro h2 x
    cases e : C.grey x with
    | false => rfl
    | true => exact absurd e (h2 x (h x (grey_iff.1 e).1))
  · intro h2 x _ e
    rw [h2 x] at e
    cases e
set_option maxRecDepth 100000 in
set_option maxHeartbeats 16000000 in
theorem markColours_walk (A0 : Option Addr) (n0 c0 : Nat) (D0 : Nat → Nat → Int) (A1 : Option Addr) (n1 c1 : Nat) (D1 : Nat → Nat → Int) (A2 : Option Addr) (n2 c2 : Nat) (D2 : Nat → Nat → Int) (w : World) (hz0 : ArgI w A0 n0 [.u8] D0) (hm0 : n0 ≤ maxLen) (hz1 : ArgI w A1 n1 [.u16, .u16, .u16] D1) (hm1 : n1 ≤ maxLen) (hz2 : ArgI w A2 n2 [.u8, .u8] D2) (hm2 : n2 ≤ maxLen) :
    Calls Try.prog 15 #[.agg #[.slice A0 n0 c0, .slice A1 n1 c1], .slice A2 n2 c2] w fun e w' => e = .returned (.bool true) ∧ Below w.heap.size w w' := by
  have HZ0 := Lib.hid hz0
  have HZ1 := Lib.hid hz1
  have HZ2 := Lib.hid hz2
  unfold maxLen at hm0 hm1
  try unfold maxLen at hm2
  clear hz0 hz1 hz2
  obtain ⟨T, hT⟩ : ∃ T, w.heap.size = T := ⟨_, rfl⟩
  have hs0 := ((Sep.start w).box #[.slice A0 n0 c0, .slice A1 n1 c1] 25).box #[.bool false] 4
  rw [World.size_alloc, hT] at hs0
  have HS0 := Lib.hid hs0
  clear hs0
  have hmm := @run_makeMap Try.prog
  refine calls_wide ?_
  refine callsIn_of_wp_marks Try.func15 rfl trivial ?_
  simp only [Try.ntmps15, List.size_toArray, List.length_cons, List.length_nil, Nat.reduceAdd, Nat.reduceSub, Array.replicate_succ, Array.replicate_zero, List.push_toArray, List.append_toArray, List.nil_append, List.cons_append]
  refine wpIn_wide.2 ?_
  by_cases hsmall : (n0 ≤ 40 ∧ n1 ≤ 120) ∧ n2 ≤ 100
  · have hsd : (decide (n0 ≤ 40) && decide (n1 ≤ 120)) = true := by rw [decide_eq_true hsmall.1.1, decide_eq_true hsmall.1.2]; rfl
    have HSD := Lib.hid hsd
    obtain ⟨⟨hn0, hn1⟩, hn2⟩ := hsmall
    clear hsd
    have hgt : ¬ (100 : Int) < (n2 : Int) := by omega
    go_wp2_with (first
      | (go_at_call 42; refine (fit11 _).mono ?_; rintro e w1 ⟨rfl, hC⟩; have hs1 := HS0.out.same hC; have p0 := (hs1.blk 1 rfl).cell 0; have p1 := (hs1.blk 1 rfl).cell 1; have r0 := (hs1.blk 0 rfl).cell 0; have fr0 := (hs1.blk 0 rfl).frozen 0; simp only [List.getElem?_toArray, List.getElem?_cons_zero, List.getElem?_cons_succ] at p0 p1 r0; have HS1 := Lib.hid hs1; clear hC hs1 HS0)
      | (go_at_call 17; refine (Small11 _ A0 n0 c0 A1 n1 c1).mono ?_; rw [HSD.out]; rintro e w2 ⟨rfl, hC⟩; have hs1 := HS1.out.same hC; have p0 := (hs1.blk 1 rfl).cell 0; have p1 := (hs1.blk 1 rfl).cell 1; have r0 := (hs1.blk 0 rfl).cell 0; have fr0 := (hs1.blk 0 rfl).frozen 0; simp only [List.getElem?_toArray, List.getElem?_cons_zero, List.getElem?_cons_succ] at p0 p1 r0; have HS2 := Lib.hid hs1; clear hC hs1 HS1)
      | (go_at_call 18; refine (Made11 A0 n0 c0 D0 A1 n1 c1 D1 HZ0.out HZ1.out hn0 hn1 HS2.out).mono ?_; rintro e w3 ⟨a, b, v, A, rs, fs, rfl, hgr, hlen, hs⟩; have p0 := (hs.blk 4 rfl).cell 0; have p1 := (hs.blk 4 rfl).cell 1; have r0 := (hs.blk 3 rfl).cell 0; have fr0 := (hs.blk 3 rfl).frozen 0; simp only [List.getElem?_toArray, List.getElem?_cons_zero, List.getElem?_cons_succ] at p0 p1 r0; have HGR := Lib.hid hgr; obtain ⟨AL, capl, rfl, hcapl, hmcapl⟩ := hs.rowShape 1 rfl; unfold maxLen at hmcapl; obtain ⟨Rn, hRn⟩ : ∃ Rn, rs.length = Rn := ⟨_, rfl⟩; have HRN := Lib.hid hRn; rw [hRn] at hcapl hs; try rw [hRn]; rw [hRn] at hlen; have hl40 : Rn ≤ 40 := (by omega); have HLEN := Lib.hid hlen; have HS3 := Lib.hid hs; clear hs hgr HS2 hRn hlen)
      | (go_at_call 19; refine (KNew HS3.out 0 rfl HGR.out.size (by omega) 64 (by omega)).mono ?_; rintro e w4 ⟨m, rfl, hs⟩; obtain ⟨hpi, hpj, _⟩ := arenaInfo; have hpp := (fun W : World => Lib.run_neq_ptr_same (P := Try.prog) W (tp := 28) ⟨a, 0, none⟩ Try.underlying28 hpj); have HC1 := Lib.hid (KMarked hs 0 rfl 0 (by omega)); clear hs HS3)
      | (go_at_call 20; refine (KShadeNil _ m).mono ?_; rintro e w5 ⟨rfl, rfl⟩)
      | (go_at_call 45; refine (KRegreyNil _ m).mono ?_; rintro e w6 ⟨rfl, rfl⟩)
      | (go_at_call 27; refine (HC1.out).mono ?_; rw [show Col.white.mz 0 = false from rfl]; rintro e w7 ⟨rfl, hs⟩; have HC2 := Lib.hid (KCount hs 0 rfl); clear hs HC1)
      | (go_at_call 33; refine (HC2.out).mono ?_; rw [elems_white]; rintro e w8 ⟨rfl, hs⟩; have HC3 := Lib.hid (KArena hs 0 rfl); have HS8 := Lib.hid hs; clear hs HC2)
      | (go_at_call 47; refine (HC3.out).mono ?_; rintro e w9 ⟨rfl, rfl⟩; clear HC3)
      | (go_at_call 21; refine (KBlackenNil _ m).mono ?_; rintro e w10 ⟨rfl, rfl⟩; obtain ⟨mi, hmi⟩ : ∃ mi, w8.heap.size = mi := ⟨_, rfl⟩; have hs5 := (HS8.out.newMap Try.prog 35 36 3 .i64 .i64).box #[.map (some w8.heap.size)] 35; rw [World.size_alloc, hmi] at hs5; have HSF := Lib.hid hs5; clear hs5 HS8))
    try simp only [hmi]
    clear hmi hmm
    obtain ⟨TW, hTW⟩ : ∃ TW, mi + 1 = TW := ⟨_, rfl⟩
    simp only [hTW] at HSF ⊢
    clear hTW
    go_loopw [65] (fun i wr => ∃ (k cn : Nat) (M : Int → Option Int) (C : Col), k ≤ n2 ∧ i = .int .i64 k ∧ cn ≤ k ∧ ColM M C ∧ (∀ x, C.sc x = true → C.mz x = true) ∧ (∀ x, C.mz x = true → x ∈ rs) ∧ Sep w wr (blkR TW 35 #[.map (some mi)] :: mapR Try.prog 35 36 3 .i64 .i64 mi (cn) (M) :: markR m a 2049 (C) :: arenaR a A :: rowR 36 1 (.slice AL Rn capl) Rn (nums rs) :: adjR Try.prog 36 36 b (ptsOf fs) :: blkR (T + 1) 4 #[.bool false] :: blkR T 25 #[.slice A0 n0 c0, .slice A1 n1 c1] :: [])) (fun i _ => n2 + 1 - (intOf i).toNat)
    case atStart => exact ⟨0, 0, _, Col.white, by omega, rfl, by omega, colM_none, (fun _ h => by cases h), (fun _ h => by cases h), HSF.out⟩
    case round =>
      clear HSF
      obtain ⟨k, cn, M, C, hk, rfl, hcn, hcm, hsu, hmr, hs⟩ := hrel
      have HCM := Lib.hid hcm
      have HSU := Lib.hid hsu
      have HMR := Lib.hid hmr
      clear hcm hsu hmr
      by_cases hlt : k < n2
      · have hltI : (k : Int) < (n2 : Int) := by omega
        rcases Nat.eq_zero_or_pos Rn with hk0 | hkp
        · obtain ⟨ab, ao, hA0, hcell⟩ := HZ2.out.at_ hs.own hlt
          subst hA0
          have hc0 := hcell 0 _ rfl
          have hw0 := wf8 (HZ2.out.wf hlt 0 .u8 rfl)
          have hc1 := hcell 1 _ rfl
          have hw1 := wf8 (HZ2.out.wf hlt 1 .u8 rfl)
          simp at hc0 hc1
          obtain ⟨d0, h0⟩ : ∃ d, D2 k 0 = d := ⟨_, rfl⟩
          rw [h0] at hc0 hw0
          obtain ⟨d1, h1⟩ : ∃ d, D2 k 1 = d := ⟨_, rfl⟩
          rw [h1] at hc1 hw1
          clear hcell h0 h1
          have hkI : (Rn : Int) = 0 := by omega
          have hkb : ((Rn : Int) == 0) = true := by simpa using hkI
          have HSE := Lib.hid (hs.box #[.int .u8 d0, .int .u8 d1] 41).tail
          have HK0 := Lib.hid hk0
          clear hs hk0
          go_wp2
          clear hkI hkb
          go_loopw [13, 14, 135] (fun s bo i wr => ∃ (k : Nat), k ≤ Rn ∧ s = .int .i64 (((rs.take k).countP C.mz : Nat) : Int) ∧ bo = .bool ((rs.take k).any C.grey) ∧ i = .int .i64 k ∧ Sep w wr (blkR TW 35 #[.map (some mi)] :: mapR Try.prog 35 36 3 .i64 .i64 mi (cn) (M) :: markR m a 2049 (C) :: arenaR a A :: rowR 36 1 (.slice AL Rn capl) Rn (nums rs) :: adjR Try.prog 36 36 b (ptsOf fs) :: blkR (T + 1) 4 #[.bool false] :: blkR T 25 #[.slice A0 n0 c0, .slice A1 n1 c1] :: [])) (fun _ _ i _ => Rn + 1 - (intOf i).toNat)
          case atStart => exact ⟨0, by omega, by simp, by simp, rfl, HSE.out⟩
          case round =>
            clear HSE
            obtain ⟨k, hk, rfl, rfl, rfl, hs⟩ := hrel
            by_cases hlt : k < Rn
            · have hltI : (k : Int) < (Rn : Int) := by omega
              exact absurd hlt (by have := HK0.out; omega)
            · obtain rfl : Rn = k := by omega
              rw [show rs.take Rn = rs by rw [← HRN.out, List.take_length]]
              obtain ⟨T6, hT6⟩ : ∃ T6, wr.heap.size = T6 := ⟨_, rfl⟩
              have hs1 := (hs.box #[.int .i64 0] 3).box #[.int .i64 0] 36
              rw [World.size_alloc, hT6] at hs1
              obtain ⟨o, ho, hs2⟩ := mark_open hs1 4 rfl
              have HO := Lib.hid ho
              have HC0 := Lib.hid (show C.mz 0 = false from by
                cases e : C.mz 0 with
                | false => rfl
                | true => exact absurd (ho.mz 0 e).1 (by omega))
              have HC := Lib.hid (KAll hs2 m)
              clear hs hs1 hs2 ho
              go_wp2_with (go_at_call 49; refine (HC.out).mono ?_; rintro e w7 ⟨rfl, hs⟩; have HS7 := Lib.hid hs; clear hs HC)
              refine (wpIn_wide (n := 0)).1 ?_
              try simp only [World.size_alloc, World.size_setCell, hT6]
              obtain ⟨Y, hY⟩ : ∃ Y, T6 + 2 = Y := ⟨_, rfl⟩
              have hs7 := HS7.out
              simp only [World.size_alloc, World.size_setCell, hT6] at hs7
              try simp only [hY] at hs7 ⊢
              have HS9 := Lib.hid (show Sep w w7 ([blkR Y 33 #[.pointer (some ⟨m, 0, none⟩)], blkR m 82 #[.pointer (some ⟨a, 0, none⟩), .pointer (some ⟨o.b1, 0, none⟩), .pointer (some ⟨o.b2, 0, none⟩), .pointer (some ⟨o.b3, 0, none⟩)], setR o.b1 ((2049 : Nat) : Int) C.mz] ++ (marksR [] :: blkR (T6 + 1) 36 #[.int .i64 0] :: blkR T6 3 #[.int .i64 0] :: setR o.b2 ((2049 : Nat) : Int) C.sc :: greyR o.b3 (ints o.gs) (o.room : Int) o.over :: blkR TW 35 #[.map (some mi)] :: mapR Try.prog 35 36 3 .i64 .i64 mi (cn) (M) :: arenaR a A :: rowR 36 1 (.slice AL Rn capl) Rn (nums rs) :: adjR Try.prog 36 36 b (ptsOf fs) :: blkR (T + 1) 4 #[.bool false] :: blkR T 25 #[.slice A0 n0 c0, .slice A1 n1 c1] :: [])) from (hs7.noMarks).front 15 [1, 2, 3, 0, 6, 7, 4, 5, 8, 9, 10, 11, 12, 13, 14])
              clear hs7 HS7 hY
              refine wp_rangeM (Ds := []) (gf := 69) (lb := #[.pointer (some ⟨Y, 0, none⟩)]) rfl (enters_of Try.func69 (by kernel_rfl) rfl) (mark_iter Y m a o.b1 o.b2 o.b3 2049 C.mz HO.out.size) (fun _ => rfl) HS9.out
                (fun pre Rs => Rs = blkR (T6 + 1) 36 #[.int .i64 (lastN pre : Nat)] :: blkR T6 3 #[.int .i64 (pre.length : Nat)] :: setR o.b2 ((2049 : Nat) : Int) C.sc :: greyR o.b3 (ints o.gs) (o.room : Int) o.over :: blkR TW 35 #[.map (some mi)] :: mapR Try.prog 35 36 3 .i64 .i64 mi (cn) (M) :: arenaR a A :: rowR 36 1 (.slice AL Rn capl) Rn (nums rs) :: adjR Try.prog 36 36 b (ptsOf fs) :: blkR (T + 1) 4 #[.bool false] :: blkR T 25 #[.slice A0 n0 c0, .slice A1 n1 c1] :: []) (fun _ _ _ => False) rfl ?roundR900 ?doneR900 ?stopR900
              case stopR900 => rintro _ _ _ _ _ _ h; exact h.elim
              case roundR900 =>
                rintro l1 pre x _ G V1 r1 hpre rfl hS1
                simp only [List.cons_append, List.nil_append] at hS1
                have HLT := Lib.hid (elems_next hpre HC0.out)
                have HXM := Lib.hid ((mem_elems (n := 2049) (S := C.mz)).1 (hpre.subset (show x ∈ pre ++ [x] by simp)))
                have hpl : pre.length < 2049 := by
                  have h1 := hpre.length_le
                  have h2 : (elems 2049 C.mz).length ≤ 2049 := by unfold elems; exact Nat.le_trans (List.length_filter_le _ _) (by simp)
                  rw [List.length_append, List.length_singleton] at h1
                  omega
                have HS1 := Lib.hid hS1
                clear hpre hS1 HS9
                gi_wp2
                refine ⟨[], HS1.out, ?_⟩
                intro r' V2 hS2
                simp only [List.cons_append, List.nil_append] at hS2
                have hxm := HXM.out
                have y0 := (hS2.blk 8 rfl).cell 0
                have y1 := (hS2.blk 5 rfl).cell 0
                have y2 := (hS2.blk 4 rfl).cell 0
                have f1 := (hS2.blk 5 rfl).frozen 0
                have f2 := (hS2.blk 4 rfl).frozen 0
                simp only [List.getElem?_toArray, List.getElem?_cons_zero] at y0 y1 y2
                have hlk := map_get refIntOk hS2 9 rfl (wfx (x := x) (by omega))
                rw [HCM.out x] at hlk
                obtain ⟨ln, hln⟩ : ∃ l, lastN pre = l := ⟨_, rfl⟩
                obtain ⟨c, hcc⟩ : ∃ c, colN C x = c := ⟨_, rfl⟩
                have hcz : ¬ c = 0 := by
                  rw [← hcc, colN_zero, hxm.2]
                  simp
                have hczI : ¬ (c : Int) = 0 := by omega
                have hczb : ((c : Int) == 0) = false := by simpa using hczI
                have hle := HLT.out
                rw [hln] at hle y2 hS2
                rw [hcc] at hlk
                have hleI : ¬ (x : Int) ≤ (ln : Int) := by omega
                have HS2 := Lib.hid hS2
                have hbk : T6 ≠ T6 + 1 := by omega
                clear hS2 hcc HS1 hle hxm hcz
                gi_wp2
                refine ⟨_, rfl, ?_⟩
                have h3 := (HS2.out.setCell 4 rfl 0 (.int .i64 (x : Int))).setCell 5 rfl 0 (.int .i64 ((pre.length : Int) + 1))
                simp only [List.set_cons_succ, List.set_cons_zero, List.setIfInBounds_toArray] at h3
                rw [lastN_push, List.length_append]
                exact h3
              rintro Ds2 _ V hR hS
              subst hR
              simp only [List.cons_append, List.nil_append] at hS
              obtain ⟨nn, hnn⟩ : ∃ n, (elems 2049 C.mz).length = n := ⟨_, rfl⟩
              obtain ⟨ll, hll⟩ : ∃ n, lastN (elems 2049 C.mz) = n := ⟨_, rfl⟩
              rw [hnn, hll] at hS
              have hS3 := mark_shutHead (R := blkR Y 33 #[.pointer (some ⟨m, 0, none⟩)] :: marksR Ds2 :: blkR (T6 + 1) 36 #[.int .i64 (ll : Nat)] :: blkR T6 3 #[.int .i64 (nn : Nat)] :: blkR TW 35 #[.map (some mi)] :: mapR Try.prog 35 36 3 .i64 .i64 mi (cn) (M) :: arenaR a A :: rowR 36 1 (.slice AL Rn capl) Rn (nums rs) :: adjR Try.prog 36 36 b (ptsOf fs) :: blkR (T + 1) 4 #[.bool false] :: blkR T 25 #[.slice A0 n0 c0, .slice A1 n1 c1] :: []) HO.out (show Sep w V (markParts m a 2049 o C ++ _) from hS.front 15 [1, 2, 6, 7, 0, 3, 4, 5, 8, 9, 10, 11, 12, 13, 14])
              have hS4 := (show Sep w V (marksR Ds2 :: blkR (T6 + 1) 36 #[.int .i64 (ll : Nat)] :: blkR T6 3 #[.int .i64 (nn : Nat)] :: blkR TW 35 #[.map (some mi)] :: mapR Try.prog 35 36 3 .i64 .i64 mi (cn) (M) :: markR m a 2049 (C) :: arenaR a A :: rowR 36 1 (.slice AL Rn capl) Rn (nums rs) :: adjR Try.prog 36 36 b (ptsOf fs) :: blkR (T + 1) 4 #[.bool false] :: blkR T 25 #[.slice A0 n0 c0, .slice A1 n1 c1] :: []) from (hS3.front 12 [1, 2, 3, 4, 5, 6, 0, 7, 8, 9, 10, 11]).tail)
              have hcn := elems_count HGR.out.nodup (fun x hx => (HGR.out.lt hx).2) HMR.out
              rw [hnn] at hcn
              have q1 := (hS4.blk 2 rfl).cell 0
              have q2 := (hS4.blk 9 rfl).frozen 0
              simp only [List.getElem?_toArray, List.getElem?_cons_zero] at q1
              have HCT := Lib.hid (KCount hS4 5 rfl)
              rw [← hcn]
              clear hS hS3 hS4 HS9
              obtain ⟨sb, hsb⟩ : ∃ s, rs.any C.grey = s := ⟨_, rfl⟩
              rw [hsb]
              have HNN := Lib.hid hnn
              have HSB := Lib.hid hsb
              clear hnn hll hcn hsb
              cases sb
              · go_wp2_with (first
                    | (go_at_call 33; refine (HCT.out).mono ?_; rw [HNN.out]; rintro e w9 ⟨rfl, hs⟩; clear q1 q2; have q1 := (hs.blk 2 rfl).cell 0; simp only [List.getElem?_toArray, List.getElem?_cons_zero] at q1; have HCD := Lib.hid (KDrained hs 5 rfl); clear hs HCT)
                    | (go_at_call 41; refine (HCD.out).mono ?_; rintro e w10 ⟨bq, rfl, hb, hs⟩; obtain rfl : bq = true := hb.2 ((any_grey HMR.out).1 HSB.out); clear q1; have q2 := (hs.blk 9 rfl).frozen 0; have q3 := (hs.blk 9 rfl).cell 0; simp only [List.getElem?_toArray, List.getElem?_cons_zero] at q3; have HSZ := Lib.hid hs; clear hs hb HCD))
                try go_wp2
                exact leavesM_box (L := blkR (T6 + 1) 36 #[.int .i64 (ll : Nat)] :: blkR T6 3 #[.int .i64 (nn : Nat)] :: blkR TW 35 #[.map (some mi)] :: mapR Try.prog 35 36 3 .i64 .i64 mi (cn) (M) :: markR m a 2049 (C) :: arenaR a A :: rowR 36 1 (.slice AL Rn capl) Rn (nums rs) :: adjR Try.prog 36 36 b (ptsOf fs) :: blkR (T + 1) 4 #[.bool true] :: blkR T 25 #[.slice A0 n0 c0, .slice A1 n1 c1] :: []) (HSZ.out.setCell 9 rfl 0 (.bool true)) 8 rfl rfl rfl (fun w' hs => ⟨rfl, hs.below⟩)
              · go_wp2_with (first
                    | (go_at_call 33; refine (HCT.out).mono ?_; rw [HNN.out]; rintro e w9 ⟨rfl, hs⟩; clear q1 q2; have q1 := (hs.blk 2 rfl).cell 0; simp only [List.getElem?_toArray, List.getElem?_cons_zero] at q1; have HCD := Lib.hid (KDrained hs 5 rfl); clear hs HCT)
                    | (go_at_call 41; refine (HCD.out).mono ?_; rintro e w10 ⟨bq, rfl, hb, hs⟩; obtain rfl : bq = false := (by cases bq with | false => rfl | true => (have h1 := (any_grey HMR.out).2 (hb.1 rfl); rw [HSB.out] at h1; cases h1)); clear q1; have q2 := (hs.blk 9 rfl).frozen 0; have q3 := (hs.blk 9 rfl).cell 0; simp only [List.getElem?_toArray, List.getElem?_cons_zero] at q3; have HSZ := Lib.hid hs; clear hs hb HCD))
                try go_wp2
                exact leavesM_box (L := blkR (T6 + 1) 36 #[.int .i64 (ll : Nat)] :: blkR T6 3 #[.int .i64 (nn : Nat)] :: blkR TW 35 #[.map (some mi)] :: mapR Try.prog 35 36 3 .i64 .i64 mi (cn) (M) :: markR m a 2049 (C) :: arenaR a A :: rowR 36 1 (.slice AL Rn capl) Rn (nums rs) :: adjR Try.prog 36 36 b (ptsOf fs) :: blkR (T + 1) 4 #[.bool true] :: blkR T 25 #[.slice A0 n0 c0, .slice A1 n1 c1] :: []) (HSZ.out.setCell 9 rfl 0 (.bool true)) 8 rfl rfl rfl (fun w' hs => ⟨rfl, hs.below⟩)
        have hkz : ¬ (Rn : Int) = 0 := by omega
        have hkb : ((Rn : Int) == 0) = false := by simp; omega
        obtain ⟨ab, ao, hA0, hcell⟩ := HZ2.out.at_ hs.own hlt
        subst hA0
        have hc0 := hcell 0 _ rfl
        have hw0 := wf8 (HZ2.out.wf hlt 0 .u8 rfl)
        have hc1 := hcell 1 _ rfl
        have hw1 := wf8 (HZ2.out.wf hlt 1 .u8 rfl)
        simp at hc0 hc1
        obtain ⟨d0, h0⟩ : ∃ d, D2 k 0 = d := ⟨_, rfl⟩
        rw [h0] at hc0 hw0
        obtain ⟨d1, h1⟩ : ∃ d, D2 k 1 = d := ⟨_, rfl⟩
        rw [h1] at hc1 hw1
        clear hcell h0 h1
        obtain ⟨g, cap', hsl, _, _⟩ := hs.rowSome 4 rfl hkp
        simp only [Value.slice.injEq] at hsl
        obtain ⟨rfl, _, rfl⟩ := hsl
        obtain ⟨K1, um, ul⟩ : ∃ K1 : Nat, d0.tmod (Rn : Int) = (K1 : Int) ∧ K1 < Rn := by
          have h1 := Int.emod_nonneg d0 (show (Rn : Int) ≠ 0 by omega)
          have h2 := Int.emod_lt_of_pos d0 (show (0 : Int) < (Rn : Int) by omega)
          refine ⟨(d0 % (Rn : Int)).toNat, ?_, by omega⟩
          rw [Int.tmod_eq_emod_of_nonneg (by omega)]
          omega
        have uI : (K1 : Int) < (Rn : Int) := by omega
        have u0 : (0 : Int) ≤ (K1 : Int) := by omega
        obtain ⟨rx, hx⟩ : ∃ x, rs[K1]? = some x := ⟨_, List.getElem?_eq_getElem (by rw [HRN.out]; exact ul)⟩
        have hxr : rx ∈ rs := List.mem_of_getElem? hx
        have hx2 := HGR.out.lt hxr
        have HX := Lib.hid hx
        obtain ⟨T5, hT5⟩ : ∃ T5, wr.heap.size = T5 := ⟨_, rfl⟩
        have hsb := hs.box #[.int .u8 d0, .int .u8 d1] 41
        rw [hT5] at hsb
        have HSB := Lib.hid hsb
        have cx := hsb.rowCell 5 rfl K1 _ (nums_get _ _ _ hx)
        have z0 := (hsb.blk 0 rfl).cell 0
        have z1 := (hsb.blk 0 rfl).cell 1
        simp only [List.getElem?_toArray, List.getElem?_cons_zero, List.getElem?_cons_succ] at z0 z1
        have hx3 := and8_3 hw1
        obtain ⟨q3, hq3, hq3l⟩ : ∃ q : Nat, d1 % 4 = (q : Int) ∧ q ≤ 3 := ⟨(d1 % 4).toNat, by omega, by omega⟩
        rw [hq3] at hx3
        obtain ⟨c, hcc0, hc2⟩ : ∃ c, colN C rx = c ∧ c ≤ 2 := ⟨_, rfl, colN_le C rx⟩
        have HCH := Lib.hid (show c = 0 ∨ c = 1 ∨ c = 2 by omega)
        have hq4 : q3 = 0 ∨ q3 = 1 ∨ q3 = 2 ∨ q3 = 3 := by omega
        clear hs hsb hx hq3 hc2 hq3l
        obtain ⟨wq, hwq⟩ : ∃ wq, wr.alloc (.cells #[.int .u8 d0, .int .u8 d1] 41) = wq := ⟨_, rfl⟩
        have HS6 := Lib.hid (show Sep w wq (blkR T5 41 #[.int .u8 d0, .int .u8 d1] :: blkR TW 35 #[.map (some mi)] :: mapR Try.prog 35 36 3 .i64 .i64 mi (cn) (M) :: markR m a 2049 (C) :: arenaR a A :: rowR 36 1 (.slice (some ⟨g, 0, none⟩) Rn capl) Rn (nums rs) :: adjR Try.prog 36 36 b (ptsOf fs) :: blkR (T + 1) 4 #[.bool false] :: blkR T 25 #[.slice A0 n0 c0, .slice A1 n1 c1] :: []) from by rw [← hwq]; exact HSB.out)
        have HWQ := Lib.hid hwq
        clear HSB hwq
        rcases hq4 with rfl | rfl | rfl | rfl
        · simp only [Int.natCast_zero, Int.ofNat_zero] at hx3
          go_wp2
          try simp only [hT5, HWQ.out]
          have HCC := Lib.hid hcc0
          clear hcc0
          rcases HCH.out with rfl | rfl | rfl
          · have HMZ := Lib.hid (show (!C.mz rx) = true from by rw [colN_mz (HSU.out rx), HCC.out]; rfl)
            have HSC := Lib.hid (show C.sc rx = false from by rw [colN_sc, HCC.out]; rfl)
            obtain ⟨wd, hwd⟩ : ∃ wd, wq.drew = wd := ⟨_, rfl⟩
            have hd := HS6.out.drew
            rw [hwd] at hd
            have k1 := (hd.blk 1 rfl).cell 0
            simp only [List.getElem?_toArray, List.getElem?_cons_zero] at k1
            have k2 := map_get refIntOk hd 2 rfl (wfx (x := rx) (by omega))
            rw [HCM.out rx, HCC.out] at k2
            have hcc := KShade hd 3 rfl rx hx2.1 hx2.2
            rw [HMZ.out] at hcc
            have HCK := Lib.hid hcc
            have hro : Try.prog.follows .mixedOrders = true := by kernel_rfl
            clear hd hcc HS6
            go_wp2
            refine calmP ?_
            refine wp_region_float (fun W => W.cell? ⟨TW, 0, none⟩ = some (.map (some mi)) ∧ (Instr.lookup 35 (.map (some mi)) (.int .i64 (rx : Int)) false).run Try.prog W = .ok (.int .i64 0) W) hro ?_
            rw [hwd]
            clear hwd
            refine wpAnyC_take (i := 0) (v := ?v1) rfl (by kernel_rfl) (by kernel_rfl) (by kernel_rfl) (fun _ _ _ h => h) (.inl ⟨?w1, ?y1⟩) ?h1
            case w1 => kernel_rfl
            case y1 =>
              intro W hf
              obtain ⟨hf1, hf2⟩ := hf
              unfold yieldsAt
              go_simp
              all_goals first | rfl | exact ⟨rfl, rfl⟩
            simp only [List.getElem_toArray, List.getElem_cons_zero, List.getElem_cons_succ, Act.put, List.setIfInBounds_toArray, List.set_cons_succ, List.set_cons_zero]
            refine wpAnyC_take (i := 1) (v := ?v2) rfl (by kernel_rfl) (by kernel_rfl) (by kernel_rfl) (fun _ _ _ h => h) (.inl ⟨?w2, ?y2⟩) ?h2
            case w2 => kernel_rfl
            case y2 =>
              intro W hf
              obtain ⟨hf1, hf2⟩ := hf
              unfold yieldsAt
              go_simp
              all_goals first | rfl | exact ⟨rfl, rfl⟩
            simp only [List.getElem_toArray, List.getElem_cons_zero, List.getElem_cons_succ, Act.put, List.setIfInBounds_toArray, List.set_cons_succ, List.set_cons_zero]
            refine wpAnyC_take (i := 3) (v := ?v3) rfl (by kernel_rfl) (by kernel_rfl) (by kernel_rfl) (fun _ _ _ h => h) (.inl ⟨?w3, ?y3⟩) ?h3
            case w3 => kernel_rfl
            case y3 =>
              intro W hf
              obtain ⟨hf1, hf2⟩ := hf
              unfold yieldsAt
              go_simp
              all_goals first | rfl | exact ⟨rfl, rfl⟩
            simp only [List.getElem_toArray, List.getElem_cons_zero, List.getElem_cons_succ, Act.put, List.setIfInBounds_toArray, List.set_cons_succ, List.set_cons_zero]
            refine wpAnyC_take (i := 4) (v := ?v4) rfl (by kernel_rfl) (by kernel_rfl) (by kernel_rfl) (fun _ _ _ h => h) (.inl ⟨?w4, ?y4⟩) ?h4
            case w4 => kernel_rfl
            case y4 =>
              intro W hf
              obtain ⟨hf1, hf2⟩ := hf
              unfold yieldsAt
              go_simp
              all_goals first | rfl | exact ⟨rfl, rfl⟩
            simp only [List.getElem_toArray, List.getElem_cons_zero, List.getElem_cons_succ, Act.put, List.setIfInBounds_toArray, List.set_cons_succ, List.set_cons_zero]
            refine wpAnyC_take (i := 5) (v := ?v5) rfl (by kernel_rfl) (by kernel_rfl) (by kernel_rfl) (fun _ _ _ h => h) (.inl ⟨?w5, ?y5⟩) ?h5
            case w5 => kernel_rfl
            case y5 =>
              intro W hf
              obtain ⟨hf1, hf2⟩ := hf
              unfold yieldsAt
              go_simp
              all_goals first | rfl | exact ⟨rfl, rfl⟩
            simp only [List.getElem_toArray, List.getElem_cons_zero, List.getElem_cons_succ, Act.put, List.setIfInBounds_toArray, List.set_cons_succ, List.set_cons_zero]
            refine wpAnyC_take (i := 6) (v := ?v6) rfl (by kernel_rfl) (by kernel_rfl) (by kernel_rfl) (fun _ _ _ h => h) (.inl ⟨?w6, ?y6⟩) ?h6
            case w6 => kernel_rfl
            case y6 =>
              intro W hf
              obtain ⟨hf1, hf2⟩ := hf
              unfold yieldsAt
              go_simp
              all_goals first | rfl | exact ⟨rfl, rfl⟩
            simp only [List.getElem_toArray, List.getElem_cons_zero, List.getElem_cons_succ, Act.put, List.setIfInBounds_toArray, List.set_cons_succ, List.set_cons_zero]
            refine wpAnyC_one (i := 2) rfl (by kernel_rfl) ⟨k1, k2⟩ rfl ?_
            intro K hK
            refine wp_call_of ?hrun7 HCK.out ?hK7
            case hrun7 => go_simp
            intro w7 hs
            have m1 := (hs.blk 1 rfl).cell 0
            simp only [List.getElem?_toArray, List.getElem?_cons_zero] at m1
            have m2 := map_get refIntOk hs 2 rfl (wfx (x := rx) (by omega))
            rw [HCM.out rx, HCC.out] at m2
            have HS7 := Lib.hid (show Sep w w7 (blkR T5 41 #[.int .u8 d0, .int .u8 d1] :: blkR TW 35 #[.map (some mi)] :: mapR Try.prog 35 36 3 .i64 .i64 mi (cn) (M) :: markR m a 2049 (C.shade rx) :: arenaR a A :: rowR 36 1 (.slice (some ⟨g, 0, none⟩) Rn capl) Rn (nums rs) :: adjR Try.prog 36 36 b (ptsOf fs) :: blkR (T + 1) 4 #[.bool false] :: blkR T 25 #[.slice A0 n0 c0, .slice A1 n1 c1] :: []) from hs)
            clear hs HCK
            refine hK _ _ ?_
            simp only [List.getElem_toArray, List.getElem_cons_zero, List.getElem_cons_succ, Act.put, List.setIfInBounds_toArray, List.set_cons_succ, List.set_cons_zero]
            refine wpAnyC_take (i := 7) (v := ?v8) rfl (by kernel_rfl) (by kernel_rfl) (by kernel_rfl) (fun _ _ _ h => h) (.inl ⟨?w8, ?y8⟩) ?h8
            case w8 => kernel_rfl
            case y8 =>
              intro W hf
              obtain ⟨hf1, hf2⟩ := hf
              unfold yieldsAt
              go_simp
              all_goals first | rfl | exact ⟨rfl, rfl⟩
            simp only [List.getElem_toArray, List.getElem_cons_zero, List.getElem_cons_succ, Act.put, List.setIfInBounds_toArray, List.set_cons_succ, List.set_cons_zero]
            refine wpAnyC_done (by kernel_rfl) ⟨m1, m2⟩ ?_ _
            try simp only [List.getElem_toArray, List.getElem_cons_zero, List.getElem_cons_succ, Act.put, List.setIfInBounds_toArray, List.set_cons_succ, List.set_cons_zero]
            clear k1 k2
            have HLK := Lib.hid m2
            obtain ⟨w8, hput, hs8⟩ := map_put refIntOk HS7.out 2 rfl (by unfold maxLen; omega) (wfx (x := rx) (by omega)) (c := 1) (by decide); obtain ⟨cn2, hcn2⟩ : ∃ c, (if (M (rx : Int)).isSome = true then cn else cn + 1) = c := ⟨_, rfl⟩; have hcn2l : cn2 ≤ cn + 1 := (by rw [← hcn2]; split <;> omega); rw [hcn2] at hs8; have HS8 := Lib.hid hs8.tail; have HP := Lib.hid hput; clear hs8 hput hcn2
            go_wp2_with (first
              | (at_lookup; refine wpList_lookup_run rfl _ _ _ _ rfl rfl rfl HLK.out ?_; clear HLK)
              | (at_mapUpdate; refine wpList_mapUpdate_run rfl _ _ _ _ rfl rfl rfl rfl HP.out ?_; clear HP))
            go_roundw
            case rel => exact ⟨k + 1, cn2, _, C.shade rx, by omega, by go_num, by omega, HCM.out.upd (by rw [colN_shade_max, HCC.out]; rfl) (fun y hy => colN_shade_other C hy), sub_shade HSU.out rx, (fun y hy => by
                have hy' : (C.mz y || decide (y = rx)) = true := hy
                simp only [Bool.or_eq_true, decide_eq_true_eq] at hy'
                rcases hy' with h | rfl
                · exact HMR.out y h
                · exact hxr), HS8.out⟩
            case measure => simp [intOf]; omega
          · have HMZ := Lib.hid (show (!C.mz rx) = false from by rw [colN_mz (HSU.out rx), HCC.out]; rfl)
            have HSC := Lib.hid (show C.sc rx = false from by rw [colN_sc, HCC.out]; rfl)
            obtain ⟨wd, hwd⟩ : ∃ wd, wq.drew = wd := ⟨_, rfl⟩
            have hd := HS6.out.drew
            rw [hwd] at hd
            have k1 := (hd.blk 1 rfl).cell 0
            simp only [List.getElem?_toArray, List.getElem?_cons_zero] at k1
            have k2 := map_get refIntOk hd 2 rfl (wfx (x := rx) (by omega))
            rw [HCM.out rx, HCC.out] at k2
            have hcc := KShade hd 3 rfl rx hx2.1 hx2.2
            rw [HMZ.out] at hcc
            have HCK := Lib.hid hcc
            have hro : Try.prog.follows .mixedOrders = true := by kernel_rfl
            clear hd hcc HS6
            go_wp2
            refine calmP ?_
            refine wp_region_float (fun W => W.cell? ⟨TW, 0, none⟩ = some (.map (some mi)) ∧ (Instr.lookup 35 (.map (some mi)) (.int .i64 (rx : Int)) false).run Try.prog W = .ok (.int .i64 1) W) hro ?_
            rw [hwd]
            clear hwd
            refine wpAnyC_take (i := 0) (v := ?v9) rfl (by kernel_rfl) (by kernel_rfl) (by kernel_rfl) (fun _ _ _ h => h) (.inl ⟨?w9, ?y9⟩) ?h9
            case w9 => kernel_rfl
            case y9 =>
              intro W hf
              obtain ⟨hf1, hf2⟩ := hf
              unfold yieldsAt
              go_simp
              all_goals first | rfl | exact ⟨rfl, rfl⟩
            simp only [List.getElem_toArray, List.getElem_cons_zero, List.getElem_cons_succ, Act.put, List.setIfInBounds_toArray, List.set_cons_succ, List.set_cons_zero]
            refine wpAnyC_take (i := 1) (v := ?v10) rfl (by kernel_rfl) (by kernel_rfl) (by kernel_rfl) (fun _ _ _ h => h) (.inl ⟨?w10, ?y10⟩) ?h10
            case w10 => kernel_rfl
            case y10 =>
              intro W hf
              obtain ⟨hf1, hf2⟩ := hf
              unfold yieldsAt
              go_simp
              all_goals first | rfl | exact ⟨rfl, rfl⟩
            simp only [List.getElem_toArray, List.getElem_cons_zero, List.getElem_cons_succ, Act.put, List.setIfInBounds_toArray, List.set_cons_succ, List.set_cons_zero]
            refine wpAnyC_take (i := 3) (v := ?v11) rfl (by kernel_rfl) (by kernel_rfl) (by kernel_rfl) (fun _ _ _ h => h) (.inl ⟨?w11, ?y11⟩) ?h11
            case w11 => kernel_rfl
            case y11 =>
              intro W hf
              obtain ⟨hf1, hf2⟩ := hf
              unfold yieldsAt
              go_simp
              all_goals first | rfl | exact ⟨rfl, rfl⟩
            simp only [List.getElem_toArray, List.getElem_cons_zero, List.getElem_cons_succ, Act.put, List.setIfInBounds_toArray, List.set_cons_succ, List.set_cons_zero]
            refine wpAnyC_take (i := 4) (v := ?v12) rfl (by kernel_rfl) (by kernel_rfl) (by kernel_rfl) (fun _ _ _ h => h) (.inl ⟨?w12, ?y12⟩) ?h12
            case w12 => kernel_rfl
            case y12 =>
              intro W hf
              obtain ⟨hf1, hf2⟩ := hf
              unfold yieldsAt
              go_simp
              all_goals first | rfl | exact ⟨rfl, rfl⟩
            simp only [List.getElem_toArray, List.getElem_cons_zero, List.getElem_cons_succ, Act.put, List.setIfInBounds_toArray, List.set_cons_succ, List.set_cons_zero]
            refine wpAnyC_take (i := 5) (v := ?v13) rfl (by kernel_rfl) (by kernel_rfl) (by kernel_rfl) (fun _ _ _ h => h) (.inl ⟨?w13, ?y13⟩) ?h13
            case w13 => kernel_rfl
            case y13 =>
              intro W hf
              obtain ⟨hf1, hf2⟩ := hf
              unfold yieldsAt
              go_simp
              all_goals first | rfl | exact ⟨rfl, rfl⟩
            simp only [List.getElem_toArray, List.getElem_cons_zero, List.getElem_cons_succ, Act.put, List.setIfInBounds_toArray, List.set_cons_succ, List.set_cons_zero]
            refine wpAnyC_take (i := 6) (v := ?v14) rfl (by kernel_rfl) (by kernel_rfl) (by kernel_rfl) (fun _ _ _ h => h) (.inl ⟨?w14, ?y14⟩) ?h14
            case w14 => kernel_rfl
            case y14 =>
              intro W hf
              obtain ⟨hf1, hf2⟩ := hf
              unfold yieldsAt
              go_simp
              all_goals first | rfl | exact ⟨rfl, rfl⟩
            simp only [List.getElem_toArray, List.getElem_cons_zero, List.getElem_cons_succ, Act.put, List.setIfInBounds_toArray, List.set_cons_succ, List.set_cons_zero]
            refine wpAnyC_one (i := 2) rfl (by kernel_rfl) ⟨k1, k2⟩ rfl ?_
            intro K hK
            refine wp_call_of ?hrun15 HCK.out ?hK15
            case hrun15 => go_simp
            intro w7 hs
            have m1 := (hs.blk 1 rfl).cell 0
            simp only [List.getElem?_toArray, List.getElem?_cons_zero] at m1
            have m2 := map_get refIntOk hs 2 rfl (wfx (x := rx) (by omega))
            rw [HCM.out rx, HCC.out] at m2
            have HS7 := Lib.hid (show Sep w w7 (blkR T5 41 #[.int .u8 d0, .int .u8 d1] :: blkR TW 35 #[.map (some mi)] :: mapR Try.prog 35 36 3 .i64 .i64 mi (cn) (M) :: markR m a 2049 (C.shade rx) :: arenaR a A :: rowR 36 1 (.slice (some ⟨g, 0, none⟩) Rn capl) Rn (nums rs) :: adjR Try.prog 36 36 b (ptsOf fs) :: blkR (T + 1) 4 #[.bool false] :: blkR T 25 #[.slice A0 n0 c0, .slice A1 n1 c1] :: []) from hs)
            clear hs HCK
            refine hK _ _ ?_
            simp only [List.getElem_toArray, List.getElem_cons_zero, List.getElem_cons_succ, Act.put, List.setIfInBounds_toArray, List.set_cons_succ, List.set_cons_zero]
            refine wpAnyC_take (i := 7) (v := ?v16) rfl (by kernel_rfl) (by kernel_rfl) (by kernel_rfl) (fun _ _ _ h => h) (.inl ⟨?w16, ?y16⟩) ?h16
            case w16 => kernel_rfl
            case y16 =>
              intro W hf
              obtain ⟨hf1, hf2⟩ := hf
              unfold yieldsAt
              go_simp
              all_goals first | rfl | exact ⟨rfl, rfl⟩
            simp only [List.getElem_toArray, List.getElem_cons_zero, List.getElem_cons_succ, Act.put, List.setIfInBounds_toArray, List.set_cons_succ, List.set_cons_zero]
            refine wpAnyC_done (by kernel_rfl) ⟨m1, m2⟩ ?_ _
            try simp only [List.getElem_toArray, List.getElem_cons_zero, List.getElem_cons_succ, Act.put, List.setIfInBounds_toArray, List.set_cons_succ, List.set_cons_zero]
            clear k1 k2
            have HLK := Lib.hid m2
            obtain ⟨w8, hput, hs8⟩ := map_put refIntOk HS7.out 2 rfl (by unfold maxLen; omega) (wfx (x := rx) (by omega)) (c := 1) (by decide); obtain ⟨cn2, hcn2⟩ : ∃ c, (if (M (rx : Int)).isSome = true then cn else cn + 1) = c := ⟨_, rfl⟩; have hcn2l : cn2 ≤ cn + 1 := (by rw [← hcn2]; split <;> omega); rw [hcn2] at hs8; have HS8 := Lib.hid hs8.tail; have HP := Lib.hid hput; clear hs8 hput hcn2
            go_wp2_with (first
              | (at_lookup; refine wpList_lookup_run rfl _ _ _ _ rfl rfl rfl HLK.out ?_; clear HLK)
              | (at_mapUpdate; refine wpList_mapUpdate_run rfl _ _ _ _ rfl rfl rfl rfl HP.out ?_; clear HP))
            go_roundw
            case rel => exact ⟨k + 1, cn2, _, C.shade rx, by omega, by go_num, by omega, HCM.out.upd (by rw [colN_shade_max, HCC.out]; rfl) (fun y hy => colN_shade_other C hy), sub_shade HSU.out rx, (fun y hy => by
                have hy' : (C.mz y || decide (y = rx)) = true := hy
                simp only [Bool.or_eq_true, decide_eq_true_eq] at hy'
                rcases hy' with h | rfl
                · exact HMR.out y h
                · exact hxr), HS8.out⟩
            case measure => simp [intOf]; omega
          · have HMZ := Lib.hid (show (!C.mz rx) = false from by rw [colN_mz (HSU.out rx), HCC.out]; rfl)
            have HSC := Lib.hid (show C.sc rx = true from by rw [colN_sc, HCC.out]; rfl)
            obtain ⟨wd, hwd⟩ : ∃ wd, wq.drew = wd := ⟨_, rfl⟩
            have hd := HS6.out.drew
            rw [hwd] at hd
            have k1 := (hd.blk 1 rfl).cell 0
            simp only [List.getElem?_toArray, List.getElem?_cons_zero] at k1
            have k2 := map_get refIntOk hd 2 rfl (wfx (x := rx) (by omega))
            rw [HCM.out rx, HCC.out] at k2
            have hcc := KShade hd 3 rfl rx hx2.1 hx2.2
            rw [HMZ.out] at hcc
            have HCK := Lib.hid hcc
            have hro : Try.prog.follows .mixedOrders = true := by kernel_rfl
            clear hd hcc HS6
            go_wp2
            refine calmP ?_
            refine wp_region_float (fun W => W.cell? ⟨TW, 0, none⟩ = some (.map (some mi)) ∧ (Instr.lookup 35 (.map (some mi)) (.int .i64 (rx : Int)) false).run Try.prog W = .ok (.int .i64 2) W) hro ?_
            rw [hwd]
            clear hwd
            refine wpAnyC_take (i := 0) (v := ?v17) rfl (by kernel_rfl) (by kernel_rfl) (by kernel_rfl) (fun _ _ _ h => h) (.inl ⟨?w17, ?y17⟩) ?h17
            case w17 => kernel_rfl
            case y17 =>
              intro W hf
              obtain ⟨hf1, hf2⟩ := hf
              unfold yieldsAt
              go_simp
              all_goals first | rfl | exact ⟨rfl, rfl⟩
            simp only [List.getElem_toArray, List.getElem_cons_zero, List.getElem_cons_succ, Act.put, List.setIfInBounds_toArray, List.set_cons_succ, List.set_cons_zero]
            refine wpAnyC_take (i := 1) (v := ?v18) rfl (by kernel_rfl) (by kernel_rfl) (by kernel_rfl) (fun _ _ _ h => h) (.inl ⟨?w18, ?y18⟩) ?h18
            case w18 => kernel_rfl
            case y18 =>
              intro W hf
              obtain ⟨hf1, hf2⟩ := hf
              unfold yieldsAt
              go_simp
              all_goals first | rfl | exact ⟨rfl, rfl⟩
            simp only [List.getElem_toArray, List.getElem_cons_zero, List.getElem_cons_succ, Act.put, List.setIfInBounds_toArray, List.set_cons_succ, List.set_cons_zero]
            refine wpAnyC_take (i := 3) (v := ?v19) rfl (by kernel_rfl) (by kernel_rfl) (by kernel_rfl) (fun _ _ _ h => h) (.inl ⟨?w19, ?y19⟩) ?h19
            case w19 => kernel_rfl
            case y19 =>
              intro W hf
              obtain ⟨hf1, hf2⟩ := hf
              unfold yieldsAt
              go_simp
              all_goals first | rfl | exact ⟨rfl, rfl⟩
            simp only [List.getElem_toArray, List.getElem_cons_zero, List.getElem_cons_succ, Act.put, List.setIfInBounds_toArray, List.set_cons_succ, List.set_cons_zero]
            refine wpAnyC_take (i := 4) (v := ?v20) rfl (by kernel_rfl) (by kernel_rfl) (by kernel_rfl) (fun _ _ _ h => h) (.inl ⟨?w20, ?y20⟩) ?h20
            case w20 => kernel_rfl
            case y20 =>
              intro W hf
              obtain ⟨hf1, hf2⟩ := hf
              unfold yieldsAt
              go_simp
              all_goals first | rfl | exact ⟨rfl, rfl⟩
            simp only [List.getElem_toArray, List.getElem_cons_zero, List.getElem_cons_succ, Act.put, List.setIfInBounds_toArray, List.set_cons_succ, List.set_cons_zero]
            refine wpAnyC_take (i := 5) (v := ?v21) rfl (by kernel_rfl) (by kernel_rfl) (by kernel_rfl) (fun _ _ _ h => h) (.inl ⟨?w21, ?y21⟩) ?h21
            case w21 => kernel_rfl
            case y21 =>
              intro W hf
              obtain ⟨hf1, hf2⟩ := hf
              unfold yieldsAt
              go_simp
              all_goals first | rfl | exact ⟨rfl, rfl⟩
            simp only [List.getElem_toArray, List.getElem_cons_zero, List.getElem_cons_succ, Act.put, List.setIfInBounds_toArray, List.set_cons_succ, List.set_cons_zero]
            refine wpAnyC_take (i := 6) (v := ?v22) rfl (by kernel_rfl) (by kernel_rfl) (by kernel_rfl) (fun _ _ _ h => h) (.inl ⟨?w22, ?y22⟩) ?h22
            case w22 => kernel_rfl
            case y22 =>
              intro W hf
              obtain ⟨hf1, hf2⟩ := hf
              unfold yieldsAt
              go_simp
              all_goals first | rfl | exact ⟨rfl, rfl⟩
            simp only [List.getElem_toArray, List.getElem_cons_zero, List.getElem_cons_succ, Act.put, List.setIfInBounds_toArray, List.set_cons_succ, List.set_cons_zero]
            refine wpAnyC_one (i := 2) rfl (by kernel_rfl) ⟨k1, k2⟩ rfl ?_
            intro K hK
            refine wp_call_of ?hrun23 HCK.out ?hK23
            case hrun23 => go_simp
            intro w7 hs
            have m1 := (hs.blk 1 rfl).cell 0
            simp only [List.getElem?_toArray, List.getElem?_cons_zero] at m1
            have m2 := map_get refIntOk hs 2 rfl (wfx (x := rx) (by omega))
            rw [HCM.out rx, HCC.out] at m2
            have HS7 := Lib.hid (show Sep w w7 (blkR T5 41 #[.int .u8 d0, .int .u8 d1] :: blkR TW 35 #[.map (some mi)] :: mapR Try.prog 35 36 3 .i64 .i64 mi (cn) (M) :: markR m a 2049 (C.shade rx) :: arenaR a A :: rowR 36 1 (.slice (some ⟨g, 0, none⟩) Rn capl) Rn (nums rs) :: adjR Try.prog 36 36 b (ptsOf fs) :: blkR (T + 1) 4 #[.bool false] :: blkR T 25 #[.slice A0 n0 c0, .slice A1 n1 c1] :: []) from hs)
            clear hs HCK
            refine hK _ _ ?_
            simp only [List.getElem_toArray, List.getElem_cons_zero, List.getElem_cons_succ, Act.put, List.setIfInBounds_toArray, List.set_cons_succ, List.set_cons_zero]
            refine wpAnyC_take (i := 7) (v := ?v24) rfl (by kernel_rfl) (by kernel_rfl) (by kernel_rfl) (fun _ _ _ h => h) (.inl ⟨?w24, ?y24⟩) ?h24
            case w24 => kernel_rfl
            case y24 =>
              intro W hf
              obtain ⟨hf1, hf2⟩ := hf
              unfold yieldsAt
              go_simp
              all_goals first | rfl | exact ⟨rfl, rfl⟩
            simp only [List.getElem_toArray, List.getElem_cons_zero, List.getElem_cons_succ, Act.put, List.setIfInBounds_toArray, List.set_cons_succ, List.set_cons_zero]
            refine wpAnyC_done (by kernel_rfl) ⟨m1, m2⟩ ?_ _
            try simp only [List.getElem_toArray, List.getElem_cons_zero, List.getElem_cons_succ, Act.put, List.setIfInBounds_toArray, List.set_cons_succ, List.set_cons_zero]
            clear k1 k2
            have HLK := Lib.hid m2
            obtain ⟨w8, hput, hs8⟩ := map_put refIntOk HS7.out 2 rfl (by unfold maxLen; omega) (wfx (x := rx) (by omega)) (c := 2) (by decide); obtain ⟨cn2, hcn2⟩ : ∃ c, (if (M (rx : Int)).isSome = true then cn else cn + 1) = c := ⟨_, rfl⟩; have hcn2l : cn2 ≤ cn + 1 := (by rw [← hcn2]; split <;> omega); rw [hcn2] at hs8; have HS8 := Lib.hid hs8.tail; have HP := Lib.hid hput; clear hs8 hput hcn2
            go_wp2_with (first
              | (at_lookup; refine wpList_lookup_run rfl _ _ _ _ rfl rfl rfl HLK.out ?_; clear HLK)
              | (at_mapUpdate; refine wpList_mapUpdate_run rfl _ _ _ _ rfl rfl rfl rfl HP.out ?_; clear HP))
            go_roundw
            case rel => exact ⟨k + 1, cn2, _, C.shade rx, by omega, by go_num, by omega, HCM.out.upd (by rw [colN_shade_max, HCC.out]; rfl) (fun y hy => colN_shade_other C hy), sub_shade HSU.out rx, (fun y hy => by
                have hy' : (C.mz y || decide (y = rx)) = true := hy
                simp only [Bool.or_eq_true, decide_eq_true_eq] at hy'
                rcases hy' with h | rfl
                · exact HMR.out y h
                · exact hxr), HS8.out⟩
            case measure => simp [intOf]; omega
        · have HCC := Lib.hid hcc0
          clear hcc0 HCH
          have hs6 := HS6.out
          rw [← HWQ.out] at hs6
          have HCK := Lib.hid (KBlacken hs6 3 rfl rx hx2.1 hx2.2)
          clear HS6 HWQ hs6
          go_wp2_with (first
            | (go_at_call 21; refine (HCK.out).mono ?_; rintro e w7 ⟨rfl, hs⟩; have u0 := (hs.blk 1 rfl).cell 0; simp only [List.getElem?_toArray, List.getElem?_cons_zero, List.getElem?_cons_succ] at u0; obtain ⟨w8, hput, hs8⟩ := map_put refIntOk hs 2 rfl (by unfold maxLen; omega) (wfx (x := rx) (by omega)) (c := 2) (by decide); obtain ⟨cn2, hcn2⟩ : ∃ c, (if (M (rx : Int)).isSome = true then cn else cn + 1) = c := ⟨_, rfl⟩; have hcn2l : cn2 ≤ cn + 1 := (by rw [← hcn2]; split <;> omega); rw [hcn2] at hs8; have HS8 := Lib.hid hs8.tail; have HP := Lib.hid hput; clear hs8 hput hcn2; clear hs HCK)
            | (at_mapUpdate; refine wpList_mapUpdate_run rfl _ _ _ _ rfl rfl rfl rfl HP.out ?_; clear HP))
          go_roundw
          case rel => exact ⟨k + 1, cn2, _, C.black rx, by omega, by go_num, by omega, HCM.out.upd (by rw [colN_black_self]; rfl) (fun y hy => colN_black_other C hy), sub_black HSU.out rx, (fun y hy => by
              have hy' : (C.mz y || decide (y = rx)) = true := hy
              simp only [Bool.or_eq_true, decide_eq_true_eq] at hy'
              rcases hy' with h | rfl
              · exact HMR.out y h
              · exact hxr), HS8.out⟩
          case measure => simp [intOf]; omega
        · go_wp2
          try simp only [hT5, HWQ.out]
          have HCC := Lib.hid hcc0
          clear hcc0
          rcases HCH.out with rfl | rfl | rfl
          · have HMZ := Lib.hid (show C.mz rx = false from by rw [colN_mz (HSU.out rx), HCC.out]; rfl)
            have HSC := Lib.hid (show C.sc rx = false from by rw [colN_sc, HCC.out]; rfl)
            obtain ⟨wd, hwd⟩ : ∃ wd, wq.drew = wd := ⟨_, rfl⟩
            have hd := HS6.out.drew
            rw [hwd] at hd
            have k1 := (hd.blk 1 rfl).cell 0
            simp only [List.getElem?_toArray, List.getElem?_cons_zero] at k1
            have k2 := map_get refIntOk hd 2 rfl (wfx (x := rx) (by omega))
            rw [HCM.out rx, HCC.out] at k2
            have hcc := KRegrey hd 3 rfl rx hx2.1 hx2.2
            rw [HSC.out] at hcc
            have HCK := Lib.hid hcc
            have hro : Try.prog.follows .mixedOrders = true := by kernel_rfl
            clear hd hcc HS6
            go_wp2
            refine calmP ?_
            refine wp_region_float (fun W => W.cell? ⟨TW, 0, none⟩ = some (.map (some mi)) ∧ (Instr.lookup 35 (.map (some mi)) (.int .i64 (rx : Int)) false).run Try.prog W = .ok (.int .i64 0) W) hro ?_
            rw [hwd]
            clear hwd
            refine wpAnyC_take (i := 0) (v := ?v25) rfl (by kernel_rfl) (by kernel_rfl) (by kernel_rfl) (fun _ _ _ h => h) (.inl ⟨?w25, ?y25⟩) ?h25
            case w25 => kernel_rfl
            case y25 =>
              intro W hf
              obtain ⟨hf1, hf2⟩ := hf
              unfold yieldsAt
              go_simp
              all_goals first | rfl | exact ⟨rfl, rfl⟩
            simp only [List.getElem_toArray, List.getElem_cons_zero, List.getElem_cons_succ, Act.put, List.setIfInBounds_toArray, List.set_cons_succ, List.set_cons_zero]
            refine wpAnyC_take (i := 1) (v := ?v26) rfl (by kernel_rfl) (by kernel_rfl) (by kernel_rfl) (fun _ _ _ h => h) (.inl ⟨?w26, ?y26⟩) ?h26
            case w26 => kernel_rfl
            case y26 =>
              intro W hf
              obtain ⟨hf1, hf2⟩ := hf
              unfold yieldsAt
              go_simp
              all_goals first | rfl | exact ⟨rfl, rfl⟩
            simp only [List.getElem_toArray, List.getElem_cons_zero, List.getElem_cons_succ, Act.put, List.setIfInBounds_toArray, List.set_cons_succ, List.set_cons_zero]
            refine wpAnyC_take (i := 3) (v := ?v27) rfl (by kernel_rfl) (by kernel_rfl) (by kernel_rfl) (fun _ _ _ h => h) (.inl ⟨?w27, ?y27⟩) ?h27
            case w27 => kernel_rfl
            case y27 =>
              intro W hf
              obtain ⟨hf1, hf2⟩ := hf
              unfold yieldsAt
              go_simp
              all_goals first | rfl | exact ⟨rfl, rfl⟩
            simp only [List.getElem_toArray, List.getElem_cons_zero, List.getElem_cons_succ, Act.put, List.setIfInBounds_toArray, List.set_cons_succ, List.set_cons_zero]
            refine wpAnyC_take (i := 4) (v := ?v28) rfl (by kernel_rfl) (by kernel_rfl) (by kernel_rfl) (fun _ _ _ h => h) (.inl ⟨?w28, ?y28⟩) ?h28
            case w28 => kernel_rfl
            case y28 =>
              intro W hf
              obtain ⟨hf1, hf2⟩ := hf
              unfold yieldsAt
              go_simp
              all_goals first | rfl | exact ⟨rfl, rfl⟩
            simp only [List.getElem_toArray, List.getElem_cons_zero, List.getElem_cons_succ, Act.put, List.setIfInBounds_toArray, List.set_cons_succ, List.set_cons_zero]
            refine wpAnyC_take (i := 5) (v := ?v29) rfl (by kernel_rfl) (by kernel_rfl) (by kernel_rfl) (fun _ _ _ h => h) (.inl ⟨?w29, ?y29⟩) ?h29
            case w29 => kernel_rfl
            case y29 =>
              intro W hf
              obtain ⟨hf1, hf2⟩ := hf
              unfold yieldsAt
              go_simp
              all_goals first | rfl | exact ⟨rfl, rfl⟩
            simp only [List.getElem_toArray, List.getElem_cons_zero, List.getElem_cons_succ, Act.put, List.setIfInBounds_toArray, List.set_cons_succ, List.set_cons_zero]
            refine wpAnyC_take (i := 6) (v := ?v30) rfl (by kernel_rfl) (by kernel_rfl) (by kernel_rfl) (fun _ _ _ h => h) (.inl ⟨?w30, ?y30⟩) ?h30
            case w30 => kernel_rfl
            case y30 =>
              intro W hf
              obtain ⟨hf1, hf2⟩ := hf
              unfold yieldsAt
              go_simp
              all_goals first | rfl | exact ⟨rfl, rfl⟩
            simp only [List.getElem_toArray, List.getElem_cons_zero, List.getElem_cons_succ, Act.put, List.setIfInBounds_toArray, List.set_cons_succ, List.set_cons_zero]
            refine wpAnyC_one (i := 2) rfl (by kernel_rfl) ⟨k1, k2⟩ rfl ?_
            intro K hK
            refine wp_call_of ?hrun31 HCK.out ?hK31
            case hrun31 => go_simp
            intro w7 hs
            have m1 := (hs.blk 1 rfl).cell 0
            simp only [List.getElem?_toArray, List.getElem?_cons_zero] at m1
            have m2 := map_get refIntOk hs 2 rfl (wfx (x := rx) (by omega))
            rw [HCM.out rx, HCC.out] at m2
            have HS7 := Lib.hid (show Sep w w7 (blkR T5 41 #[.int .u8 d0, .int .u8 d1] :: blkR TW 35 #[.map (some mi)] :: mapR Try.prog 35 36 3 .i64 .i64 mi (cn) (M) :: markR m a 2049 (Col.mk C.mz (fun z => C.sc z && !decide (z = rx))) :: arenaR a A :: rowR 36 1 (.slice (some ⟨g, 0, none⟩) Rn capl) Rn (nums rs) :: adjR Try.prog 36 36 b (ptsOf fs) :: blkR (T + 1) 4 #[.bool false] :: blkR T 25 #[.slice A0 n0 c0, .slice A1 n1 c1] :: []) from hs)
            clear hs HCK
            refine hK _ _ ?_
            simp only [List.getElem_toArray, List.getElem_cons_zero, List.getElem_cons_succ, Act.put, List.setIfInBounds_toArray, List.set_cons_succ, List.set_cons_zero]
            refine wpAnyC_take (i := 7) (v := ?v32) rfl (by kernel_rfl) (by kernel_rfl) (by kernel_rfl) (fun _ _ _ h => h) (.inl ⟨?w32, ?y32⟩) ?h32
            case w32 => kernel_rfl
            case y32 =>
              intro W hf
              obtain ⟨hf1, hf2⟩ := hf
              unfold yieldsAt
              go_simp
              all_goals first | rfl | exact ⟨rfl, rfl⟩
            simp only [List.getElem_toArray, List.getElem_cons_zero, List.getElem_cons_succ, Act.put, List.setIfInBounds_toArray, List.set_cons_succ, List.set_cons_zero]
            refine wpAnyC_done (by kernel_rfl) ⟨m1, m2⟩ ?_ _
            try simp only [List.getElem_toArray, List.getElem_cons_zero, List.getElem_cons_succ, Act.put, List.setIfInBounds_toArray, List.set_cons_succ, List.set_cons_zero]
            clear k1 k2
            have HLK := Lib.hid m2
            have HS8 := Lib.hid HS7.out.tail
            go_wp2_with (at_lookup; refine wpList_lookup_run rfl _ _ _ _ rfl rfl rfl HLK.out ?_; clear HLK)
            go_roundw
            case rel => exact ⟨k + 1, cn, M, Col.mk C.mz (fun z => C.sc z && !decide (z = rx)), by omega, by go_num, by omega, (fun y => by rw [HCM.out y, regrey_not HSC.out]), sub_re HSU.out rx, HMR.out, HS8.out⟩
            case measure => simp [intOf]; omega
          · have HMZ := Lib.hid (show C.mz rx = true from by rw [colN_mz (HSU.out rx), HCC.out]; rfl)
            have HSC := Lib.hid (show C.sc rx = false from by rw [colN_sc, HCC.out]; rfl)
            obtain ⟨wd, hwd⟩ : ∃ wd, wq.drew = wd := ⟨_, rfl⟩
            have hd := HS6.out.drew
            rw [hwd] at hd
            have k1 := (hd.blk 1 rfl).cell 0
            simp only [List.getElem?_toArray, List.getElem?_cons_zero] at k1
            have k2 := map_get refIntOk hd 2 rfl (wfx (x := rx) (by omega))
            rw [HCM.out rx, HCC.out] at k2
            have hcc := KRegrey hd 3 rfl rx hx2.1 hx2.2
            rw [HSC.out] at hcc
            have HCK := Lib.hid hcc
            have hro : Try.prog.follows .mixedOrders = true := by kernel_rfl
            clear hd hcc HS6
            go_wp2
            refine calmP ?_
            refine wp_region_float (fun W => W.cell? ⟨TW, 0, none⟩ = some (.map (some mi)) ∧ (Instr.lookup 35 (.map (some mi)) (.int .i64 (rx : Int)) false).run Try.prog W = .ok (.int .i64 1) W) hro ?_
            rw [hwd]
            clear hwd
            refine wpAnyC_take (i := 0) (v := ?v33) rfl (by kernel_rfl) (by kernel_rfl) (by kernel_rfl) (fun _ _ _ h => h) (.inl ⟨?w33, ?y33⟩) ?h33
            case w33 => kernel_rfl
            case y33 =>
              intro W hf
              obtain ⟨hf1, hf2⟩ := hf
              unfold yieldsAt
              go_simp
              all_goals first | rfl | exact ⟨rfl, rfl⟩
            simp only [List.getElem_toArray, List.getElem_cons_zero, List.getElem_cons_succ, Act.put, List.setIfInBounds_toArray, List.set_cons_succ, List.set_cons_zero]
            refine wpAnyC_take (i := 1) (v := ?v34) rfl (by kernel_rfl) (by kernel_rfl) (by kernel_rfl) (fun _ _ _ h => h) (.inl ⟨?w34, ?y34⟩) ?h34
            case w34 => kernel_rfl
            case y34 =>
              intro W hf
              obtain ⟨hf1, hf2⟩ := hf
              unfold yieldsAt
              go_simp
              all_goals first | rfl | exact ⟨rfl, rfl⟩
            simp only [List.getElem_toArray, List.getElem_cons_zero, List.getElem_cons_succ, Act.put, List.setIfInBounds_toArray, List.set_cons_succ, List.set_cons_zero]
            refine wpAnyC_take (i := 3) (v := ?v35) rfl (by kernel_rfl) (by kernel_rfl) (by kernel_rfl) (fun _ _ _ h => h) (.inl ⟨?w35, ?y35⟩) ?h35
            case w35 => kernel_rfl
            case y35 =>
              intro W hf
              obtain ⟨hf1, hf2⟩ := hf
              unfold yieldsAt
              go_simp
              all_goals first | rfl | exact ⟨rfl, rfl⟩
            simp only [List.getElem_toArray, List.getElem_cons_zero, List.getElem_cons_succ, Act.put, List.setIfInBounds_toArray, List.set_cons_succ, List.set_cons_zero]
            refine wpAnyC_take (i := 4) (v := ?v36) rfl (by kernel_rfl) (by kernel_rfl) (by kernel_rfl) (fun _ _ _ h => h) (.inl ⟨?w36, ?y36⟩) ?h36
            case w36 => kernel_rfl
            case y36 =>
              intro W hf
              obtain ⟨hf1, hf2⟩ := hf
              unfold yieldsAt
              go_simp
              all_goals first | rfl | exact ⟨rfl, rfl⟩
            simp only [List.getElem_toArray, List.getElem_cons_zero, List.getElem_cons_succ, Act.put, List.setIfInBounds_toArray, List.set_cons_succ, List.set_cons_zero]
            refine wpAnyC_take (i := 5) (v := ?v37) rfl (by kernel_rfl) (by kernel_rfl) (by kernel_rfl) (fun _ _ _ h => h) (.inl ⟨?w37, ?y37⟩) ?h37
            case w37 => kernel_rfl
            case y37 =>
              intro W hf
              obtain ⟨hf1, hf2⟩ := hf
              unfold yieldsAt
              go_simp
              all_goals first | rfl | exact ⟨rfl, rfl⟩
            simp only [List.getElem_toArray, List.getElem_cons_zero, List.getElem_cons_succ, Act.put, List.setIfInBounds_toArray, List.set_cons_succ, List.set_cons_zero]
            refine wpAnyC_take (i := 6) (v := ?v38) rfl (by kernel_rfl) (by kernel_rfl) (by kernel_rfl) (fun _ _ _ h => h) (.inl ⟨?w38, ?y38⟩) ?h38
            case w38 => kernel_rfl
            case y38 =>
              intro W hf
              obtain ⟨hf1, hf2⟩ := hf
              unfold yieldsAt
              go_simp
              all_goals first | rfl | exact ⟨rfl, rfl⟩
            simp only [List.getElem_toArray, List.getElem_cons_zero, List.getElem_cons_succ, Act.put, List.setIfInBounds_toArray, List.set_cons_succ, List.set_cons_zero]
            refine wpAnyC_one (i := 2) rfl (by kernel_rfl) ⟨k1, k2⟩ rfl ?_
            intro K hK
            refine wp_call_of ?hrun39 HCK.out ?hK39
            case hrun39 => go_simp
            intro w7 hs
            have m1 := (hs.blk 1 rfl).cell 0
            simp only [List.getElem?_toArray, List.getElem?_cons_zero] at m1
            have m2 := map_get refIntOk hs 2 rfl (wfx (x := rx) (by omega))
            rw [HCM.out rx, HCC.out] at m2
            have HS7 := Lib.hid (show Sep w w7 (blkR T5 41 #[.int .u8 d0, .int .u8 d1] :: blkR TW 35 #[.map (some mi)] :: mapR Try.prog 35 36 3 .i64 .i64 mi (cn) (M) :: markR m a 2049 (Col.mk C.mz (fun z => C.sc z && !decide (z = rx))) :: arenaR a A :: rowR 36 1 (.slice (some ⟨g, 0, none⟩) Rn capl) Rn (nums rs) :: adjR Try.prog 36 36 b (ptsOf fs) :: blkR (T + 1) 4 #[.bool false] :: blkR T 25 #[.slice A0 n0 c0, .slice A1 n1 c1] :: []) from hs)
            clear hs HCK
            refine hK _ _ ?_
            simp only [List.getElem_toArray, List.getElem_cons_zero, List.getElem_cons_succ, Act.put, List.setIfInBounds_toArray, List.set_cons_succ, List.set_cons_zero]
            refine wpAnyC_take (i := 7) (v := ?v40) rfl (by kernel_rfl) (by kernel_rfl) (by kernel_rfl) (fun _ _ _ h => h) (.inl ⟨?w40, ?y40⟩) ?h40
            case w40 => kernel_rfl
            case y40 =>
              intro W hf
              obtain ⟨hf1, hf2⟩ := hf
              unfold yieldsAt
              go_simp
              all_goals first | rfl | exact ⟨rfl, rfl⟩
            simp only [List.getElem_toArray, List.getElem_cons_zero, List.getElem_cons_succ, Act.put, List.setIfInBounds_toArray, List.set_cons_succ, List.set_cons_zero]
            refine wpAnyC_done (by kernel_rfl) ⟨m1, m2⟩ ?_ _
            try simp only [List.getElem_toArray, List.getElem_cons_zero, List.getElem_cons_succ, Act.put, List.setIfInBounds_toArray, List.set_cons_succ, List.set_cons_zero]
            clear k1 k2
            have HLK := Lib.hid m2
            have HS8 := Lib.hid HS7.out.tail
            go_wp2_with (at_lookup; refine wpList_lookup_run rfl _ _ _ _ rfl rfl rfl HLK.out ?_; clear HLK)
            go_roundw
            case rel => exact ⟨k + 1, cn, M, Col.mk C.mz (fun z => C.sc z && !decide (z = rx)), by omega, by go_num, by omega, (fun y => by rw [HCM.out y, regrey_not HSC.out]), sub_re HSU.out rx, HMR.out, HS8.out⟩
            case measure => simp [intOf]; omega
          · have HMZ := Lib.hid (show C.mz rx = true from by rw [colN_mz (HSU.out rx), HCC.out]; rfl)
            have HSC := Lib.hid (show C.sc rx = true from by rw [colN_sc, HCC.out]; rfl)
            obtain ⟨wd, hwd⟩ : ∃ wd, wq.drew = wd := ⟨_, rfl⟩
            have hd := HS6.out.drew
            rw [hwd] at hd
            have k1 := (hd.blk 1 rfl).cell 0
            simp only [List.getElem?_toArray, List.getElem?_cons_zero] at k1
            have k2 := map_get refIntOk hd 2 rfl (wfx (x := rx) (by omega))
            rw [HCM.out rx, HCC.out] at k2
            have hcc := KRegrey hd 3 rfl rx hx2.1 hx2.2
            rw [HSC.out] at hcc
            have HCK := Lib.hid hcc
            have hro : Try.prog.follows .mixedOrders = true := by kernel_rfl
            clear hd hcc HS6
            go_wp2
            refine calmP ?_
            refine wp_region_float (fun W => W.cell? ⟨TW, 0, none⟩ = some (.map (some mi)) ∧ (Instr.lookup 35 (.map (some mi)) (.int .i64 (rx : Int)) false).run Try.prog W = .ok (.int .i64 2) W) hro ?_
            rw [hwd]
            clear hwd
            refine wpAnyC_take (i := 0) (v := ?v41) rfl (by kernel_rfl) (by kernel_rfl) (by kernel_rfl) (fun _ _ _ h => h) (.inl ⟨?w41, ?y41⟩) ?h41
            case w41 => kernel_rfl
            case y41 =>
              intro W hf
              obtain ⟨hf1, hf2⟩ := hf
              unfold yieldsAt
              go_simp
              all_goals first | rfl | exact ⟨rfl, rfl⟩
            simp only [List.getElem_toArray, List.getElem_cons_zero, List.getElem_cons_succ, Act.put, List.setIfInBounds_toArray, List.set_cons_succ, List.set_cons_zero]
            refine wpAnyC_take (i := 1) (v := ?v42) rfl (by kernel_rfl) (by kernel_rfl) (by kernel_rfl) (fun _ _ _ h => h) (.inl ⟨?w42, ?y42⟩) ?h42
            case w42 => kernel_rfl
            case y42 =>
              intro W hf
              obtain ⟨hf1, hf2⟩ := hf
              unfold yieldsAt
              go_simp
              all_goals first | rfl | exact ⟨rfl, rfl⟩
            simp only [List.getElem_toArray, List.getElem_cons_zero, List.getElem_cons_succ, Act.put, List.setIfInBounds_toArray, List.set_cons_succ, List.set_cons_zero]
            refine wpAnyC_take (i := 3) (v := ?v43) rfl (by kernel_rfl) (by kernel_rfl) (by kernel_rfl) (fun _ _ _ h => h) (.inl ⟨?w43, ?y43⟩) ?h43
            case w43 => kernel_rfl
            case y43 =>
              intro W hf
              obtain ⟨hf1, hf2⟩ := hf
              unfold yieldsAt
              go_simp
              all_goals first | rfl | exact ⟨rfl, rfl⟩
            simp only [List.getElem_toArray, List.getElem_cons_zero, List.getElem_cons_succ, Act.put, List.setIfInBounds_toArray, List.set_cons_succ, List.set_cons_zero]
            refine wpAnyC_take (i := 4) (v := ?v44) rfl (by kernel_rfl) (by kernel_rfl) (by kernel_rfl) (fun _ _ _ h => h) (.inl ⟨?w44, ?y44⟩) ?h44
            case w44 => kernel_rfl
            case y44 =>
              intro W hf
              obtain ⟨hf1, hf2⟩ := hf
              unfold yieldsAt
              go_simp
              all_goals first | rfl | exact ⟨rfl, rfl⟩
            simp only [List.getElem_toArray, List.getElem_cons_zero, List.getElem_cons_succ, Act.put, List.setIfInBounds_toArray, List.set_cons_succ, List.set_cons_zero]
            refine wpAnyC_take (i := 5) (v := ?v45) rfl (by kernel_rfl) (by kernel_rfl) (by kernel_rfl) (fun _ _ _ h => h) (.inl ⟨?w45, ?y45⟩) ?h45
            case w45 => kernel_rfl
            case y45 =>
              intro W hf
              obtain ⟨hf1, hf2⟩ := hf
              unfold yieldsAt
              go_simp
              all_goals first | rfl | exact ⟨rfl, rfl⟩
            simp only [List.getElem_toArray, List.getElem_cons_zero, List.getElem_cons_succ, Act.put, List.setIfInBounds_toArray, List.set_cons_succ, List.set_cons_zero]
            refine wpAnyC_take (i := 6) (v := ?v46) rfl (by kernel_rfl) (by kernel_rfl) (by kernel_rfl) (fun _ _ _ h => h) (.inl ⟨?w46, ?y46⟩) ?h46
            case w46 => kernel_rfl
            case y46 =>
              intro W hf
              obtain ⟨hf1, hf2⟩ := hf
              unfold yieldsAt
              go_simp
              all_goals first | rfl | exact ⟨rfl, rfl⟩
            simp only [List.getElem_toArray, List.getElem_cons_zero, List.getElem_cons_succ, Act.put, List.setIfInBounds_toArray, List.set_cons_succ, List.set_cons_zero]
            refine wpAnyC_one (i := 2) rfl (by kernel_rfl) ⟨k1, k2⟩ rfl ?_
            intro K hK
            refine wp_call_of ?hrun47 HCK.out ?hK47
            case hrun47 => go_simp
            intro w7 hs
            have m1 := (hs.blk 1 rfl).cell 0
            simp only [List.getElem?_toArray, List.getElem?_cons_zero] at m1
            have m2 := map_get refIntOk hs 2 rfl (wfx (x := rx) (by omega))
            rw [HCM.out rx, HCC.out] at m2
            have HS7 := Lib.hid (show Sep w w7 (blkR T5 41 #[.int .u8 d0, .int .u8 d1] :: blkR TW 35 #[.map (some mi)] :: mapR Try.prog 35 36 3 .i64 .i64 mi (cn) (M) :: markR m a 2049 (Col.mk C.mz (fun z => C.sc z && !decide (z = rx))) :: arenaR a A :: rowR 36 1 (.slice (some ⟨g, 0, none⟩) Rn capl) Rn (nums rs) :: adjR Try.prog 36 36 b (ptsOf fs) :: blkR (T + 1) 4 #[.bool false] :: blkR T 25 #[.slice A0 n0 c0, .slice A1 n1 c1] :: []) from hs)
            clear hs HCK
            refine hK _ _ ?_
            simp only [List.getElem_toArray, List.getElem_cons_zero, List.getElem_cons_succ, Act.put, List.setIfInBounds_toArray, List.set_cons_succ, List.set_cons_zero]
            refine wpAnyC_take (i := 7) (v := ?v48) rfl (by kernel_rfl) (by kernel_rfl) (by kernel_rfl) (fun _ _ _ h => h) (.inl ⟨?w48, ?y48⟩) ?h48
            case w48 => kernel_rfl
            case y48 =>
              intro W hf
              obtain ⟨hf1, hf2⟩ := hf
              unfold yieldsAt
              go_simp
              all_goals first | rfl | exact ⟨rfl, rfl⟩
            simp only [List.getElem_toArray, List.getElem_cons_zero, List.getElem_cons_succ, Act.put, List.setIfInBounds_toArray, List.set_cons_succ, List.set_cons_zero]
            refine wpAnyC_done (by kernel_rfl) ⟨m1, m2⟩ ?_ _
            try simp only [List.getElem_toArray, List.getElem_cons_zero, List.getElem_cons_succ, Act.put, List.setIfInBounds_toArray, List.set_cons_succ, List.set_cons_zero]
            clear k1 k2
            have HLK := Lib.hid m2
            obtain ⟨w8, hput, hs8⟩ := map_put refIntOk HS7.out 2 rfl (by unfold maxLen; omega) (wfx (x := rx) (by omega)) (c := 1) (by decide); obtain ⟨cn2, hcn2⟩ : ∃ c, (if (M (rx : Int)).isSome = true then cn else cn + 1) = c := ⟨_, rfl⟩; have hcn2l : cn2 ≤ cn + 1 := (by rw [← hcn2]; split <;> omega); rw [hcn2] at hs8; have HS8 := Lib.hid hs8.tail; have HP := Lib.hid hput; clear hs8 hput hcn2
            go_wp2_with (first
              | (at_lookup; refine wpList_lookup_run rfl _ _ _ _ rfl rfl rfl HLK.out ?_; clear HLK)
              | (at_mapUpdate; refine wpList_mapUpdate_run rfl _ _ _ _ rfl rfl rfl rfl HP.out ?_; clear HP))
            go_roundw
            case rel => exact ⟨k + 1, cn2, _, Col.mk C.mz (fun z => C.sc z && !decide (z = rx)), by omega, by go_num, by omega, HCM.out.upd (by rw [colN_re_self HMZ.out]; rfl) (fun y hy => colN_re_other hy), sub_re HSU.out rx, HMR.out, HS8.out⟩
            case measure => simp [intOf]; omega
        · have HCC := Lib.hid hcc0
          clear hcc0
          rcases HCH.out with rfl | rfl | rfl
          · have HMZ := Lib.hid (show C.mz rx = false from by rw [colN_mz (HSU.out rx), HCC.out]; rfl)
            have HSC := Lib.hid (show C.sc rx = false from by rw [colN_sc, HCC.out]; rfl)
            have hs := HS6.out
            rw [← HWQ.out] at hs
            clear HWQ
            have u0 := (hs.blk 1 rfl).cell 0; simp only [List.getElem?_toArray, List.getElem?_cons_zero, List.getElem?_cons_succ] at u0
            have hlk := map_get refIntOk hs 2 rfl (wfx (x := rx) (by omega))
            rw [HCM.out rx, HCC.out] at hlk
            have HLK := Lib.hid hlk
            have HCK := Lib.hid (KForget hs 3 rfl rx hx2.2)
            clear hs hlk HS6
            go_wp2_with (first
              | (at_lookup; refine wpList_lookup_run rfl _ _ _ _ rfl rfl rfl HLK.out ?_; clear HLK)
              | (go_at_call 48; refine (HCK.out).mono ?_; rintro e w7 ⟨rfl, hs⟩; clear u0; have u0 := (hs.blk 1 rfl).cell 0; simp only [List.getElem?_toArray, List.getElem?_cons_zero, List.getElem?_cons_succ] at u0; obtain ⟨w8, hput, hs8⟩ := map_put refIntOk hs 2 rfl (by unfold maxLen; omega) (wfx (x := rx) (by omega)) (c := 0) (by decide); obtain ⟨cn2, hcn2⟩ : ∃ c, (if (M (rx : Int)).isSome = true then cn else cn + 1) = c := ⟨_, rfl⟩; have hcn2l : cn2 ≤ cn + 1 := (by rw [← hcn2]; split <;> omega); rw [hcn2] at hs8; have HS8 := Lib.hid hs8.tail; have HP := Lib.hid hput; clear hs8 hput hcn2; clear hs HCK)
              | (at_mapUpdate; refine wpList_mapUpdate_run rfl _ _ _ _ rfl rfl rfl rfl HP.out ?_; clear HP))
            go_roundw
            case rel => exact ⟨k + 1, cn2, _, C.forget rx, by omega, by go_num, by omega, HCM.out.upd (by rw [colN_forget_self]; rfl) (fun y hy => colN_forget_other C hy), sub_forget HSU.out rx, (fun y hy => by
                have hy' : (C.mz y && !decide (y = rx)) = true := hy
                simp only [Bool.and_eq_true] at hy'
                exact HMR.out y hy'.1), HS8.out⟩
            case measure => simp [intOf]; omega
          · have HMZ := Lib.hid (show C.mz rx = true from by rw [colN_mz (HSU.out rx), HCC.out]; rfl)
            have HSC := Lib.hid (show C.sc rx = false from by rw [colN_sc, HCC.out]; rfl)
            have hs := HS6.out
            rw [← HWQ.out] at hs
            clear HWQ
            have u0 := (hs.blk 1 rfl).cell 0; simp only [List.getElem?_toArray, List.getElem?_cons_zero, List.getElem?_cons_succ] at u0
            have hlk := map_get refIntOk hs 2 rfl (wfx (x := rx) (by omega))
            rw [HCM.out rx, HCC.out] at hlk
            have HLK := Lib.hid hlk
            have HS8 := Lib.hid hs.tail
            clear hs hlk HS6
            go_wp2_with (at_lookup; refine wpList_lookup_run rfl _ _ _ _ rfl rfl rfl HLK.out ?_; clear HLK)
            go_roundw
            case rel => exact ⟨k + 1, cn, M, C, by omega, by go_num, by omega, HCM.out, HSU.out, HMR.out, HS8.out⟩
            case measure => simp [intOf]; omega
          · have HMZ := Lib.hid (show C.mz rx = true from by rw [colN_mz (HSU.out rx), HCC.out]; rfl)
            have HSC := Lib.hid (show C.sc rx = true from by rw [colN_sc, HCC.out]; rfl)
            have hs := HS6.out
            rw [← HWQ.out] at hs
            clear HWQ
            have u0 := (hs.blk 1 rfl).cell 0; simp only [List.getElem?_toArray, List.getElem?_cons_zero, List.getElem?_cons_succ] at u0
            have hlk := map_get refIntOk hs 2 rfl (wfx (x := rx) (by omega))
            rw [HCM.out rx, HCC.out] at hlk
            have HLK := Lib.hid hlk
            have HCK := Lib.hid (KForget hs 3 rfl rx hx2.2)
            clear hs hlk HS6
            go_wp2_with (first
              | (at_lookup; refine wpList_lookup_run rfl _ _ _ _ rfl rfl rfl HLK.out ?_; clear HLK)
              | (go_at_call 48; refine (HCK.out).mono ?_; rintro e w7 ⟨rfl, hs⟩; clear u0; have u0 := (hs.blk 1 rfl).cell 0; simp only [List.getElem?_toArray, List.getElem?_cons_zero, List.getElem?_cons_succ] at u0; obtain ⟨w8, hput, hs8⟩ := map_put refIntOk hs 2 rfl (by unfold maxLen; omega) (wfx (x := rx) (by omega)) (c := 0) (by decide); obtain ⟨cn2, hcn2⟩ : ∃ c, (if (M (rx : Int)).isSome = true then cn else cn + 1) = c := ⟨_, rfl⟩; have hcn2l : cn2 ≤ cn + 1 := (by rw [← hcn2]; split <;> omega); rw [hcn2] at hs8; have HS8 := Lib.hid hs8.tail; have HP := Lib.hid hput; clear hs8 hput hcn2; clear hs HCK)
              | (at_mapUpdate; refine wpList_mapUpdate_run rfl _ _ _ _ rfl rfl rfl rfl HP.out ?_; clear HP))
            go_roundw
            case rel => exact ⟨k + 1, cn2, _, C.forget rx, by omega, by go_num, by omega, HCM.out.upd (by rw [colN_forget_self]; rfl) (fun y hy => colN_forget_other C hy), sub_forget HSU.out rx, (fun y hy => by
                have hy' : (C.mz y && !decide (y = rx)) = true := hy
                simp only [Bool.and_eq_true] at hy'
                exact HMR.out y hy'.1), HS8.out⟩
            case measure => simp [intOf]; omega
      · obtain rfl : n2 = k := by omega
        have HSE := Lib.hid hs
        clear hs
        go_wp2
        go_loopw [13, 14, 135] (fun s bo i wr => ∃ (k : Nat), k ≤ Rn ∧ s = .int .i64 (((rs.take k).countP C.mz : Nat) : Int) ∧ bo = .bool ((rs.take k).any C.grey) ∧ i = .int .i64 k ∧ Sep w wr (blkR TW 35 #[.map (some mi)] :: mapR Try.prog 35 36 3 .i64 .i64 mi (cn) (M) :: markR m a 2049 (C) :: arenaR a A :: rowR 36 1 (.slice AL Rn capl) Rn (nums rs) :: adjR Try.prog 36 36 b (ptsOf fs) :: blkR (T + 1) 4 #[.bool false] :: blkR T 25 #[.slice A0 n0 c0, .slice A1 n1 c1] :: [])) (fun _ _ i _ => Rn + 1 - (intOf i).toNat)
        case atStart => exact ⟨0, by omega, by simp, by simp, rfl, HSE.out⟩
        case round =>
          clear HSE
          obtain ⟨k, hk, rfl, rfl, rfl, hs⟩ := hrel
          by_cases hlt : k < Rn
          · have hltI : (k : Int) < (Rn : Int) := by omega
            obtain ⟨x, hx⟩ : ∃ z_, rs[k]? = some z_ := ⟨_, List.getElem?_eq_getElem (by rw [HRN.out]; exact hlt)⟩
            obtain ⟨g, cap', hsl, _, _⟩ := hs.rowSome 4 rfl (by omega)
            simp only [Value.slice.injEq] at hsl
            obtain ⟨rfl, _, rfl⟩ := hsl
            have cx := hs.rowCell 4 rfl k _ (nums_get _ _ _ hx)
            have hx2 := HGR.out.lt (List.mem_of_getElem? hx)
            have HX := Lib.hid hx
            have hlk := map_get refIntOk hs 1 rfl (wfx (x := x) (by omega))
            have u0 := (hs.blk 0 rfl).cell 0; simp only [List.getElem?_toArray, List.getElem?_cons_zero, List.getElem?_cons_succ] at u0
            obtain ⟨c, hcc0, hc2⟩ : ∃ c, colN C x = c ∧ c ≤ 2 := ⟨_, rfl, colN_le C x⟩
            rw [HCM.out x, hcc0] at hlk
            have HCC := Lib.hid hcc0
            have HSQ := Lib.hid hs
            obtain ⟨sb, hsb⟩ : ∃ s, (rs.take k).any C.grey = s := ⟨_, rfl⟩
            obtain ⟨cc, hcn2⟩ : ∃ n, (rs.take k).countP C.mz = n := ⟨_, rfl⟩
            have hcl : cc ≤ k := by rw [← hcn2]; exact Nat.le_trans List.countP_le_length (by rw [List.length_take]; omega)
            rw [hsb, hcn2]
            have HCC2 := Lib.hid hcn2
            clear hcn2
            have HSBB := Lib.hid hsb
            clear hs hx hcc0 hsb
            have hc3 : c = 0 ∨ c = 1 ∨ c = 2 := by omega
            rcases hc3 with rfl | rfl | rfl
            · have HLK := Lib.hid hlk
              clear hlk hc2
              cases sb
              all_goals
                have HMZ := Lib.hid (show C.mz x = false from by rw [colN_mz (HSU.out x), HCC.out]; rfl)
                have HSC := Lib.hid (show C.sc x = false from by rw [colN_sc, HCC.out]; rfl)
                have HGY := Lib.hid (show C.grey x = false from by rw [grey_colN x (HSU.out x), HCC.out]; rfl)
                have HC := Lib.hid (KMarked HSQ.out 2 rfl x hx2.2)
                have HCN1 := Lib.hid (show (rs.take (k + 1)).countP C.mz = cc from by
                  rw [List.take_add_one, HX.out, List.countP_append, HCC2.out]
                  simp [List.countP_cons, HMZ.out])
                clear HSQ
                go_wp2_with (first
                  | (at_lookup; refine wpList_lookup_run rfl _ _ _ _ rfl rfl rfl HLK.out ?_; clear HLK)
                  | (go_at_call 27; refine (HC.out).mono ?_; rw [HMZ.out]; rintro e w7 ⟨rfl, hs⟩; have HC2 := Lib.hid (KScanned hs 2 rfl x hx2.2); clear hs HC)
                  | (go_at_call 28; refine (HC2.out).mono ?_; rw [HSC.out]; rintro e w8 ⟨rfl, hs⟩; have HS8 := Lib.hid hs; clear hs HC2))
                go_roundw
                case rel => exact ⟨k + 1, by omega, by rw [HCN1.out], by rw [List.take_add_one, HX.out, List.any_append, HSBB.out]; simp [HGY.out], by go_num, HS8.out⟩
                case measure => simp [intOf]; omega
            · have HLK := Lib.hid hlk
              clear hlk hc2
              cases sb
              all_goals
                have HMZ := Lib.hid (show C.mz x = true from by rw [colN_mz (HSU.out x), HCC.out]; rfl)
                have HSC := Lib.hid (show C.sc x = false from by rw [colN_sc, HCC.out]; rfl)
                have HGY := Lib.hid (show C.grey x = true from by rw [grey_colN x (HSU.out x), HCC.out]; rfl)
                have HC := Lib.hid (KMarked HSQ.out 2 rfl x hx2.2)
                have HCN1 := Lib.hid (show (rs.take (k + 1)).countP C.mz = cc + 1 from by
                  rw [List.take_add_one, HX.out, List.countP_append, HCC2.out]
                  simp [List.countP_cons, HMZ.out])
                clear HSQ
                go_wp2_with (first
                  | (at_lookup; refine wpList_lookup_run rfl _ _ _ _ rfl rfl rfl HLK.out ?_; clear HLK)
                  | (go_at_call 27; refine (HC.out).mono ?_; rw [HMZ.out]; rintro e w7 ⟨rfl, hs⟩; have HC2 := Lib.hid (KScanned hs 2 rfl x hx2.2); clear hs HC)
                  | (go_at_call 28; refine (HC2.out).mono ?_; rw [HSC.out]; rintro e w8 ⟨rfl, hs⟩; have HS8 := Lib.hid hs; clear hs HC2))
                go_roundw
                case rel => exact ⟨k + 1, by omega, by rw [HCN1.out]; go_num, by rw [List.take_add_one, HX.out, List.any_append, HSBB.out]; simp [HGY.out], by go_num, HS8.out⟩
                case measure => simp [intOf]; omega
            · have HLK := Lib.hid hlk
              clear hlk hc2
              cases sb
              all_goals
                have HMZ := Lib.hid (show C.mz x = true from by rw [colN_mz (HSU.out x), HCC.out]; rfl)
                have HSC := Lib.hid (show C.sc x = true from by rw [colN_sc, HCC.out]; rfl)
                have HGY := Lib.hid (show C.grey x = false from by rw [grey_colN x (HSU.out x), HCC.out]; rfl)
                have HC := Lib.hid (KMarked HSQ.out 2 rfl x hx2.2)
                have HCN1 := Lib.hid (show (rs.take (k + 1)).countP C.mz = cc + 1 from by
                  rw [List.take_add_one, HX.out, List.countP_append, HCC2.out]
                  simp [List.countP_cons, HMZ.out])
                clear HSQ
                go_wp2_with (first
                  | (at_lookup; refine wpList_lookup_run rfl _ _ _ _ rfl rfl rfl HLK.out ?_; clear HLK)
                  | (go_at_call 27; refine (HC.out).mono ?_; rw [HMZ.out]; rintro e w7 ⟨rfl, hs⟩; have HC2 := Lib.hid (KScanned hs 2 rfl x hx2.2); clear hs HC)
                  | (go_at_call 28; refine (HC2.out).mono ?_; rw [HSC.out]; rintro e w8 ⟨rfl, hs⟩; have HS8 := Lib.hid hs; clear hs HC2))
                go_roundw
                case rel => exact ⟨k + 1, by omega, by rw [HCN1.out]; go_num, by rw [List.take_add_one, HX.out, List.any_append, HSBB.out]; simp [HGY.out], by go_num, HS8.out⟩
                case measure => simp [intOf]; omega
          · obtain rfl : Rn = k := by omega
            rw [show rs.take Rn = rs by rw [← HRN.out, List.take_length]]
            obtain ⟨T6, hT6⟩ : ∃ T6, wr.heap.size = T6 := ⟨_, rfl⟩
            have hs1 := (hs.box #[.int .i64 0] 3).box #[.int .i64 0] 36
            rw [World.size_alloc, hT6] at hs1
            obtain ⟨o, ho, hs2⟩ := mark_open hs1 4 rfl
            have HO := Lib.hid ho
            have HC0 := Lib.hid (show C.mz 0 = false from by
              cases e : C.mz 0 with
              | false => rfl
              | true => exact absurd (ho.mz 0 e).1 (by omega))
            have HC := Lib.hid (KAll hs2 m)
            clear hs hs1 hs2 ho
            go_wp2_with (go_at_call 49; refine (HC.out).mono ?_; rintro e w7 ⟨rfl, hs⟩; have HS7 := Lib.hid hs; clear hs HC)
            refine (wpIn_wide (n := 0)).1 ?_
            try simp only [World.size_alloc, World.size_setCell, hT6]
            obtain ⟨Y, hY⟩ : ∃ Y, T6 + 2 = Y := ⟨_, rfl⟩
            have hs7 := HS7.out
            simp only [World.size_alloc, World.size_setCell, hT6] at hs7
            try simp only [hY] at hs7 ⊢
            have HS9 := Lib.hid (show Sep w w7 ([blkR Y 33 #[.pointer (some ⟨m, 0, none⟩)], blkR m 82 #[.pointer (some ⟨a, 0, none⟩), .pointer (some ⟨o.b1, 0, none⟩), .pointer (some ⟨o.b2, 0, none⟩), .pointer (some ⟨o.b3, 0, none⟩)], setR o.b1 ((2049 : Nat) : Int) C.mz] ++ (marksR [] :: blkR (T6 + 1) 36 #[.int .i64 0] :: blkR T6 3 #[.int .i64 0] :: setR o.b2 ((2049 : Nat) : Int) C.sc :: greyR o.b3 (ints o.gs) (o.room : Int) o.over :: blkR TW 35 #[.map (some mi)] :: mapR Try.prog 35 36 3 .i64 .i64 mi (cn) (M) :: arenaR a A :: rowR 36 1 (.slice AL Rn capl) Rn (nums rs) :: adjR Try.prog 36 36 b (ptsOf fs) :: blkR (T + 1) 4 #[.bool false] :: blkR T 25 #[.slice A0 n0 c0, .slice A1 n1 c1] :: [])) from (hs7.noMarks).front 15 [1, 2, 3, 0, 6, 7, 4, 5, 8, 9, 10, 11, 12, 13, 14])
            clear hs7 HS7 hY
            refine wp_rangeM (Ds := []) (gf := 69) (lb := #[.pointer (some ⟨Y, 0, none⟩)]) rfl (enters_of Try.func69 (by kernel_rfl) rfl) (mark_iter Y m a o.b1 o.b2 o.b3 2049 C.mz HO.out.size) (fun _ => rfl) HS9.out
              (fun pre Rs => Rs = blkR (T6 + 1) 36 #[.int .i64 (lastN pre : Nat)] :: blkR T6 3 #[.int .i64 (pre.length : Nat)] :: setR o.b2 ((2049 : Nat) : Int) C.sc :: greyR o.b3 (ints o.gs) (o.room : Int) o.over :: blkR TW 35 #[.map (some mi)] :: mapR Try.prog 35 36 3 .i64 .i64 mi (cn) (M) :: arenaR a A :: rowR 36 1 (.slice AL Rn capl) Rn (nums rs) :: adjR Try.prog 36 36 b (ptsOf fs) :: blkR (T + 1) 4 #[.bool false] :: blkR T 25 #[.slice A0 n0 c0, .slice A1 n1 c1] :: []) (fun _ _ _ => False) rfl ?roundR1 ?doneR1 ?stopR1
            case stopR1 => rintro _ _ _ _ _ _ h; exact h.elim
            case roundR1 =>
              rintro l1 pre x _ G V1 r1 hpre rfl hS1
              simp only [List.cons_append, List.nil_append] at hS1
              have HLT := Lib.hid (elems_next hpre HC0.out)
              have HXM := Lib.hid ((mem_elems (n := 2049) (S := C.mz)).1 (hpre.subset (show x ∈ pre ++ [x] by simp)))
              have hpl : pre.length < 2049 := by
                have h1 := hpre.length_le
                have h2 : (elems 2049 C.mz).length ≤ 2049 := by unfold elems; exact Nat.le_trans (List.length_filter_le _ _) (by simp)
                rw [List.length_append, List.length_singleton] at h1
                omega
              have HS1 := Lib.hid hS1
              clear hpre hS1 HS9
              gi_wp2
              refine ⟨[], HS1.out, ?_⟩
              intro r' V2 hS2
              simp only [List.cons_append, List.nil_append] at hS2
              have hxm := HXM.out
              have y0 := (hS2.blk 8 rfl).cell 0
              have y1 := (hS2.blk 5 rfl).cell 0
              have y2 := (hS2.blk 4 rfl).cell 0
              have f1 := (hS2.blk 5 rfl).frozen 0
              have f2 := (hS2.blk 4 rfl).frozen 0
              simp only [List.getElem?_toArray, List.getElem?_cons_zero] at y0 y1 y2
              have hlk := map_get refIntOk hS2 9 rfl (wfx (x := x) (by omega))
              rw [HCM.out x] at hlk
              obtain ⟨ln, hln⟩ : ∃ l, lastN pre = l := ⟨_, rfl⟩
              obtain ⟨c, hcc⟩ : ∃ c, colN C x = c := ⟨_, rfl⟩
              have hcz : ¬ c = 0 := by
                rw [← hcc, colN_zero, hxm.2]
                simp
              have hczI : ¬ (c : Int) = 0 := by omega
              have hczb : ((c : Int) == 0) = false := by simpa using hczI
              have hle := HLT.out
              rw [hln] at hle y2 hS2
              rw [hcc] at hlk
              have hleI : ¬ (x : Int) ≤ (ln : Int) := by omega
              have HS2 := Lib.hid hS2
              have hbk : T6 ≠ T6 + 1 := by omega
              clear hS2 hcc HS1 hle hxm hcz
              gi_wp2
              refine ⟨_, rfl, ?_⟩
              have h3 := (HS2.out.setCell 4 rfl 0 (.int .i64 (x : Int))).setCell 5 rfl 0 (.int .i64 ((pre.length : Int) + 1))
              simp only [List.set_cons_succ, List.set_cons_zero, List.setIfInBounds_toArray] at h3
              rw [lastN_push, List.length_append]
              exact h3
            rintro Ds2 _ V hR hS
            subst hR
            simp only [List.cons_append, List.nil_append] at hS
            obtain ⟨nn, hnn⟩ : ∃ n, (elems 2049 C.mz).length = n := ⟨_, rfl⟩
            obtain ⟨ll, hll⟩ : ∃ n, lastN (elems 2049 C.mz) = n := ⟨_, rfl⟩
            rw [hnn, hll] at hS
            have hS3 := mark_shutHead (R := blkR Y 33 #[.pointer (some ⟨m, 0, none⟩)] :: marksR Ds2 :: blkR (T6 + 1) 36 #[.int .i64 (ll : Nat)] :: blkR T6 3 #[.int .i64 (nn : Nat)] :: blkR TW 35 #[.map (some mi)] :: mapR Try.prog 35 36 3 .i64 .i64 mi (cn) (M) :: arenaR a A :: rowR 36 1 (.slice AL Rn capl) Rn (nums rs) :: adjR Try.prog 36 36 b (ptsOf fs) :: blkR (T + 1) 4 #[.bool false] :: blkR T 25 #[.slice A0 n0 c0, .slice A1 n1 c1] :: []) HO.out (show Sep w V (markParts m a 2049 o C ++ _) from hS.front 15 [1, 2, 6, 7, 0, 3, 4, 5, 8, 9, 10, 11, 12, 13, 14])
            have hS4 := (show Sep w V (marksR Ds2 :: blkR (T6 + 1) 36 #[.int .i64 (ll : Nat)] :: blkR T6 3 #[.int .i64 (nn : Nat)] :: blkR TW 35 #[.map (some mi)] :: mapR Try.prog 35 36 3 .i64 .i64 mi (cn) (M) :: markR m a 2049 (C) :: arenaR a A :: rowR 36 1 (.slice AL Rn capl) Rn (nums rs) :: adjR Try.prog 36 36 b (ptsOf fs) :: blkR (T + 1) 4 #[.bool false] :: blkR T 25 #[.slice A0 n0 c0, .slice A1 n1 c1] :: []) from (hS3.front 12 [1, 2, 3, 4, 5, 6, 0, 7, 8, 9, 10, 11]).tail)
            have hcn := elems_count HGR.out.nodup (fun x hx => (HGR.out.lt hx).2) HMR.out
            rw [hnn] at hcn
            have q1 := (hS4.blk 2 rfl).cell 0
            have q2 := (hS4.blk 9 rfl).frozen 0
            simp only [List.getElem?_toArray, List.getElem?_cons_zero] at q1
            have HCT := Lib.hid (KCount hS4 5 rfl)
            rw [← hcn]
            clear hS hS3 hS4 HS9
            obtain ⟨sb, hsb⟩ : ∃ s, rs.any C.grey = s := ⟨_, rfl⟩
            rw [hsb]
            have HNN := Lib.hid hnn
            have HSB := Lib.hid hsb
            clear hnn hll hcn hsb
            cases sb
            · go_wp2_with (first
                  | (go_at_call 33; refine (HCT.out).mono ?_; rw [HNN.out]; rintro e w9 ⟨rfl, hs⟩; clear q1 q2; have q1 := (hs.blk 2 rfl).cell 0; simp only [List.getElem?_toArray, List.getElem?_cons_zero] at q1; have HCD := Lib.hid (KDrained hs 5 rfl); clear hs HCT)
                  | (go_at_call 41; refine (HCD.out).mono ?_; rintro e w10 ⟨bq, rfl, hb, hs⟩; obtain rfl : bq = true := hb.2 ((any_grey HMR.out).1 HSB.out); clear q1; have q2 := (hs.blk 9 rfl).frozen 0; have q3 := (hs.blk 9 rfl).cell 0; simp only [List.getElem?_toArray, List.getElem?_cons_zero] at q3; have HSZ := Lib.hid hs; clear hs hb HCD))
              try go_wp2
              exact leavesM_box (L := blkR (T6 + 1) 36 #[.int .i64 (ll : Nat)] :: blkR T6 3 #[.int .i64 (nn : Nat)] :: blkR TW 35 #[.map (some mi)] :: mapR Try.prog 35 36 3 .i64 .i64 mi (cn) (M) :: markR m a 2049 (C) :: arenaR a A :: rowR 36 1 (.slice AL Rn capl) Rn (nums rs) :: adjR Try.prog 36 36 b (ptsOf fs) :: blkR (T + 1) 4 #[.bool true] :: blkR T 25 #[.slice A0 n0 c0, .slice A1 n1 c1] :: []) (HSZ.out.setCell 9 rfl 0 (.bool true)) 8 rfl rfl rfl (fun w' hs => ⟨rfl, hs.below⟩)
            · go_wp2_with (first
                  | (go_at_call 33; refine (HCT.out).mono ?_; rw [HNN.out]; rintro e w9 ⟨rfl, hs⟩; clear q1 q2; have q1 := (hs.blk 2 rfl).cell 0; simp only [List.getElem?_toArray, List.getElem?_cons_zero] at q1; have HCD := Lib.hid (KDrained hs 5 rfl); clear hs HCT)
                  | (go_at_call 41; refine (HCD.out).mono ?_; rintro e w10 ⟨bq, rfl, hb, hs⟩; obtain rfl : bq = false := (by cases bq with | false => rfl | true => (have h1 := (any_grey HMR.out).2 (hb.1 rfl); rw [HSB.out] at h1; cases h1)); clear q1; have q2 := (hs.blk 9 rfl).frozen 0; have q3 := (hs.blk 9 rfl).cell 0; simp only [List.getElem?_toArray, List.getElem?_cons_zero] at q3; have HSZ := Lib.hid hs; clear hs hb HCD))
              try go_wp2
              exact leavesM_box (L := blkR (T6 + 1) 36 #[.int .i64 (ll : Nat)] :: blkR T6 3 #[.int .i64 (nn : Nat)] :: blkR TW 35 #[.map (some mi)] :: mapR Try.prog 35 36 3 .i64 .i64 mi (cn) (M) :: markR m a 2049 (C) :: arenaR a A :: rowR 36 1 (.slice AL Rn capl) Rn (nums rs) :: adjR Try.prog 36 36 b (ptsOf fs) :: blkR (T + 1) 4 #[.bool true] :: blkR T 25 #[.slice A0 n0 c0, .slice A1 n1 c1] :: []) (HSZ.out.setCell 9 rfl 0 (.bool true)) 8 rfl rfl rfl (fun w' hs => ⟨rfl, hs.below⟩)
  · by_cases hsm : n0 ≤ 40 ∧ n1 ≤ 120
    · have HSD := Lib.hid (show (decide (n0 ≤ 40) && decide (n1 ≤ 120)) = true by rw [decide_eq_true hsm.1, decide_eq_true hsm.2]; rfl)
      have hgt : (100 : Int) < (n2 : Int) := by omega
      clear hsm hsmall
      go_wp2_with (first
        | (go_at_call 42; refine (fit11 _).mono ?_; rintro e w1 ⟨rfl, hC⟩; have hs1 := HS0.out.same hC; have p0 := (hs1.blk 1 rfl).cell 0; have p1 := (hs1.blk 1 rfl).cell 1; have r0 := (hs1.blk 0 rfl).cell 0; have fr0 := (hs1.blk 0 rfl).frozen 0; simp only [List.getElem?_toArray, List.getElem?_cons_zero, List.getElem?_cons_succ] at p0 p1 r0; have HS1 := Lib.hid hs1; clear hC hs1 HS0)
        | (go_at_call 17; refine (Small11 _ A0 n0 c0 A1 n1 c1).mono ?_; rw [HSD.out]; rintro e w2 ⟨rfl, hC⟩; clear p0 p1 r0 fr0; have hs1 := HS1.out.same hC; have p0 := (hs1.blk 1 rfl).cell 0; have p1 := (hs1.blk 1 rfl).cell 1; have r0 := (hs1.blk 0 rfl).cell 0; have fr0 := (hs1.blk 0 rfl).frozen 0; simp only [List.getElem?_toArray, List.getElem?_cons_zero, List.getElem?_cons_succ] at p0 p1 r0; have HS2 := Lib.hid hs1; clear hC hs1 HS1))
      exact leaves_box0 (HS2.out.setCell 0 rfl 0 (.bool true)) 0 rfl rfl rfl ⟨rfl, (HS2.out.setCell 0 rfl 0 (.bool true)).below⟩
    · have HSD := Lib.hid (show (decide (n0 ≤ 40) && decide (n1 ≤ 120)) = false by
        rw [Bool.and_eq_false_iff]
        by_cases h : n0 ≤ 40
        · exact .inr (decide_eq_false fun h2 => hsm ⟨h, h2⟩)
        · exact .inl (decide_eq_false h))
      clear hsm hsmall
      go_wp2_with (first
        | (go_at_call 42; refine (fit11 _).mono ?_; rintro e w1 ⟨rfl, hC⟩; have hs1 := HS0.out.same hC; have p0 := (hs1.blk 1 rfl).cell 0; have p1 := (hs1.blk 1 rfl).cell 1; have r0 := (hs1.blk 0 rfl).cell 0; have fr0 := (hs1.blk 0 rfl).frozen 0; simp only [List.getElem?_toArray, List.getElem?_cons_zero, List.getElem?_cons_succ] at p0 p1 r0; have HS1 := Lib.hid hs1; clear hC hs1 HS0)
        | (go_at_call 17; refine (Small11 _ A0 n0 c0 A1 n1 c1).mono ?_; rw [HSD.out]; rintro e w2 ⟨rfl, hC⟩; clear p0 p1 r0 fr0; have hs1 := HS1.out.same hC; have p0 := (hs1.blk 1 rfl).cell 0; have p1 := (hs1.blk 1 rfl).cell 1; have r0 := (hs1.blk 0 rfl).cell 0; have fr0 := (hs1.blk 0 rfl).frozen 0; simp only [List.getElem?_toArray, List.getElem?_cons_zero, List.getElem?_cons_succ] at p0 p1 r0; have HS2 := Lib.hid hs1; clear hC hs1 HS1))
      exact leaves_box0 (HS2.out.setCell 0 rfl 0 (.bool true)) 0 rfl rfl rfl ⟨rfl, (HS2.out.setCell 0 rfl 0 (.bool true)).below⟩
end Go.Proofs.Ytacebfocfpbkdaa
