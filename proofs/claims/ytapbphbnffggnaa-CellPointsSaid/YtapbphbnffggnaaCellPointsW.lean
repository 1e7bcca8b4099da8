/-
  The walk of CellPoints. Conditions: as the theorem says.
-/
import Derived.Test.YtapbphbnffggnaaOpen
import Derived.Test.YtapbphbnffggnaaFit04
import Derived.Test.YtapbphbnffggnaaMade
import Derived.Test.YtapbphbnffggnaaResultM
namespace Go.Proofs.Ytapbphbnffggnaa
set_option linter.unusedVariables false
set_option linter.unusedSimpArgs false
open Go.RowKit Go.Shelf
attribute [local go_sem] Oper.semAt_some wide_fn round_fn wide_depth round_depth
attribute [local simp] wide_fn round_fn wide_depth round_depth

/-- A number as the program's value. -/
def encI (x : Int) : Value := .int .i64 x
/-- Of the first m fields, those that point. -/
def wsOf (fs : List Int) (m : Nat) : List Int := (fs.take m).filter fun v => !(v == 0)
theorem wsOf_length (fs : List Int) (m : Nat) : (wsOf fs m).length ≤ m := by
  unfold wsOf
  have h1 := List.length_filter_le (fun v : Int => !(v == 0)) (fs.take m)
  have h2 := List.length_take_le m fs
  omega
theorem wsOf_zero (fs : List Int) (m : Nat) (h : fs[m]? = some 0) : wsOf fs (m + 1) = wsOf fs m := by
  unfold wsOf
  obtain ⟨hl, e⟩ := List.getElem?_eq_some_iff.1 h
  rw [List.take_succ_eq_append_getElem hl, List.filter_append, e]
  simp
theorem wsOf_more (fs : List Int) (m : Nat) {y : Int} (h : fs[m]? = some y) (hy : ¬ y = 0) : wsOf fs (m + 1) = wsOf fs m ++ [y] := by
  unfold wsOf
  obtain ⟨hl, e⟩ := List.getElem?_eq_some_iff.1 h
  rw [List.take_succ_eq_append_getElem hl, List.filter_append, e]
  simp [hy]
set_option maxRecDepth 100000 in
set_option maxHeartbeats 8000000 in
theorem cellPoints_walk (A : Option Addr) (n c : Nat) (D : Nat → Nat → Int) (leave : Int) (w : World) (hz : ArgI w A n [.i64, .i64, .i64, .i64] D) (hm : n ≤ maxLen) (hp : (Lit.int .u8 leave).wf = true) :
    Calls Try.prog 13 #[.slice A n c, .int .u8 leave] w fun e w' => e = .returned (.bool true) ∧ Below w.heap.size w w' := by
  have HZ := Lib.hid hz
  unfold maxLen at hm
  have hl8 := wf8 hp
  obtain ⟨Lv, hLv, hLv7⟩ : ∃ Lv : Nat, leave % 8 = (Lv : Int) ∧ Lv ≤ 7 := ⟨(leave % 8).toNat, by omega, by omega⟩
  clear hz hp
  refine calls_wide ?_
  refine callsIn_of_wp_marks Try.func13 rfl trivial ?_
  simp only [Try.ntmps13, List.size_toArray, List.length_cons, List.length_nil, Nat.reduceAdd, Nat.reduceSub, Array.replicate_succ, Array.replicate_zero, List.push_toArray, List.append_toArray, List.nil_append, List.cons_append]
  have hsi := ((Sep.start w).box #[.int .u8 leave] 5).box #[.bool false] 4
  rw [World.size_alloc] at hsi
  have HSI := Lib.hid hsi
  clear hsi
  by_cases hn : 60 < n
  · gi_wp2_with (gi_at_call 39; refine (calls_in (fit04 _)).mono ?_; rintro e w1 ⟨rfl, hC⟩; have hs := HSI.out.same hC; clear hC; have q0 := (hs.blk 0 rfl).cell 0; have fq0 := (hs.blk 0 rfl).frozen 0; simp only [List.getElem?_toArray, List.getElem?_cons_zero, List.getElem?_cons_succ] at q0; have HS0 := Lib.hid hs; clear hs)
    exact leaves_box0 (HS0.out.setCell 0 rfl 0 (.bool true)) 0 rfl rfl rfl ⟨rfl, (HS0.out.setCell 0 rfl 0 (.bool true)).below⟩
  gi_wp2_with (first
    | (gi_at_call 39; refine (calls_in (fit04 _)).mono ?_; rintro e w1 ⟨rfl, hC⟩; have HS0 := Lib.hid (HSI.out.same hC); clear hC HSI)
    | (gi_at_call 18; refine (calls_in (TANew HS0.out 8 8 (by decide))).mono ?_; rintro e w2 ⟨a, ids, rfl, hs⟩; have HS2 := Lib.hid hs; clear hs HS0; have HW := Lib.hid (AR.new_wf 8 ids (by omega)))
    | (gi_at_call 40; refine (calls_in (Made04 A n c D HZ.out (by omega) _ HW.out HS2.out)).mono ?_; rintro e w3 ⟨v, ts, B, rfl, hlen, hlk, hs⟩; have HS3 := Lib.hid hs; clear hs HS2 HW; have HLK := Lib.hid hlk; clear hlk; obtain ⟨AA, cap, rfl, hcap, hcm⟩ := HS3.out.rowShape 1 rfl; unfold maxLen at hcm; obtain ⟨Ln, hLn⟩ : ∃ Ln, ts.length = Ln := ⟨_, rfl⟩; have HLN := Lib.hid hLn; rw [hLn] at hlen hcap HS3 ⊢; clear hLn))
  obtain ⟨b0, hb0⟩ : ∃ b0, w.heap.size = b0 := ⟨_, rfl⟩
  rw [hb0] at HS3
  have HSM := Lib.hid (show Sep w w3 (marksR [] :: arenaR a B :: rowR 66 1 (.slice AA Ln cap) Ln (ts.map encT) :: thingsR ts :: blkR (b0 + 1) 4 #[.bool false] :: blkR b0 5 #[.int .u8 leave] :: []) from HS3.out.noMarks)
  simp only [hb0]
  refine wpIn_loopM (Ds := []) [9, 10, 12, 13, 31, 32, 33, 34, 35, 36, 37, 38, 39, 40, 41, 42, 43, 44, 45, 46, 47, 48, 49, 50, 51, 52, 53, 54, 55, 56, 77, 78, 79, 80, 81, 82, 83, 84, 85, 86, 87, 88] (fun v Ds wr => ∃ k : Nat, k ≤ Ln ∧ v 31 = .int .i64 k ∧ Sep w wr (marksR Ds :: arenaR a B :: rowR 66 1 (.slice AA Ln cap) Ln (ts.map encT) :: thingsR ts :: blkR (b0 + 1) 4 #[.bool false] :: blkR b0 5 #[.int .u8 leave] :: [])) (fun v _ => Ln + 1 - (intOf (v 31)).toNat) ⟨0, by omega, rfl, HSM.out⟩ (by kernel_rfl) ?_
  clear HS3 HSM
  rintro v Ds wr ⟨k, hk, hv, hs⟩
  simp only [setS, List.foldl_cons, List.foldl_nil, List.setIfInBounds_toArray, List.set_cons_succ, List.set_cons_zero]
  simp only [hv]
  have hok0 := (hs.blk 4 rfl).cell 0
  have hokf := (hs.blk 4 rfl).frozen 0
  simp only [List.getElem?_toArray, List.getElem?_cons_zero] at hok0
  by_cases hlt : k < Ln
  · obtain ⟨g, cap', hsl, _, _⟩ := hs.rowSome 2 rfl (by omega)
    simp only [Value.slice.injEq] at hsl
    obtain ⟨rfl, _, rfl⟩ := hsl
    obtain ⟨t, ht⟩ : ∃ t, ts[k]? = some t := ⟨_, List.getElem?_eq_getElem (by rw [HLN.out]; exact hlt)⟩
    have HK := Lib.hid ht
    have HO := Lib.hid (HLK.out.obj k t ht)
    have hcp := hs.rowCell 2 rfl k (encT t) (by rw [List.getElem?_map, ht]; rfl)
    unfold encT at hcp
    have hltI : (k : Int) < (Ln : Int) := by omega
    have h6 := HO.out.six
    obtain ⟨Fn, hFn⟩ : ∃ Fn, t.fs.length = Fn := ⟨_, rfl⟩
    have HFN := Lib.hid hFn
    have ut := (hs.front 4 [3, 0, 1, 2]).thingOut HK.out
    have u0 := (ut.blk 0 rfl).cell 0
    have u1 := (ut.blk 0 rfl).cell 1
    simp only [List.getElem?_toArray, List.getElem?_cons_zero, List.getElem?_cons_succ] at u0 u1
    rw [hFn] at u1 h6
    obtain ⟨T, hT⟩ : ∃ T, wr.heap.size = T := ⟨_, rfl⟩
    have hs2 : Sep w (wr.alloc (.cells #[.slice none 0 0] 32)) (blkR T 32 #[(.slice none 0 0)] :: rowR 26 1 (.slice none 0 0) 0 (([] : List Int).map encI) :: marksR Ds :: arenaR a B :: rowR 66 1 (.slice (some ⟨g, 0, none⟩) Ln cap) Ln (ts.map encT) :: thingsR ts :: blkR (b0 + 1) 4 #[.bool false] :: blkR b0 5 #[.int .u8 leave] :: []) := by
      rw [← hT]
      exact (hs.nilRow 26 1).box #[.slice none 0 0] 32
    have HS2 := Lib.hid hs2
    have xt := (hs2.front 6 [5, 0, 1, 2, 3, 4]).thingOut HK.out
    have x0 := (xt.blk 0 rfl).cell 0
    have x1 := (xt.blk 0 rfl).cell 1
    simp only [List.getElem?_toArray, List.getElem?_cons_zero, List.getElem?_cons_succ] at x0 x1
    rw [hFn] at x1
    clear hs hs2 ht hFn ut xt
    gi_wp2
    clear hcp u0 u1 x0 x1
    gi_loopw [40] (fun i wr => ∃ (m : Nat) (vw : Value), m ≤ Fn ∧ i = .int .i64 m ∧ Sep w wr (blkR T 32 #[vw] :: rowR 26 1 vw (wsOf t.fs m).length ((wsOf t.fs m).map encI) :: marksR Ds :: arenaR a B :: rowR 66 1 (.slice (some ⟨g, 0, none⟩) Ln cap) Ln (ts.map encT) :: thingsR ts :: blkR (b0 + 1) 4 #[.bool false] :: blkR b0 5 #[.int .u8 leave] :: [])) (fun i _ => Fn + 1 - (intOf i).toNat)
    case atStart => exact ⟨0, _, by omega, rfl, HS2.out⟩
    case round =>
      clear HS2
      obtain ⟨m, vw, hm, rfl, hs⟩ := hrel
      obtain ⟨AW, capw, rfl, hcapw, hcmw⟩ := hs.rowShape 1 rfl
      unfold maxLen at hcmw
      have z0 := (hs.blk 0 rfl).cell 0
      have zf := (hs.blk 0 rfl).frozen 0
      have hok0 := (hs.blk 6 rfl).cell 0
      have hokf := (hs.blk 6 rfl).frozen 0
      simp only [List.getElem?_toArray, List.getElem?_cons_zero] at z0 hok0
      have ut := (hs.front 6 [5, 0, 1, 2, 3, 4]).thingOut HK.out
      have u0 := (ut.blk 0 rfl).cell 0
      have u1 := (ut.blk 0 rfl).cell 1
      simp only [List.getElem?_toArray, List.getElem?_cons_zero, List.getElem?_cons_succ] at u0 u1
      rw [HFN.out] at u1
      obtain ⟨Wn, hWn⟩ : ∃ Wn, (wsOf t.fs m).length = Wn := ⟨_, rfl⟩
      have HWN := Lib.hid hWn
      have hwm : Wn ≤ m := by rw [← hWn]; exact wsOf_length _ _
      rw [hWn] at hs hcapw z0
      clear hWn
      have HS2 := Lib.hid hs
      by_cases hlt2 : m < Fn
      · obtain ⟨y, hy⟩ : ∃ y, t.fs[m]? = some y := ⟨_, List.getElem?_eq_getElem (by rw [HFN.out]; exact hlt2)⟩
        have v0 := (ut.blk 1 rfl).cell m
        rw [show (fieldCells t.fs)[m]? = some (.int .i64 y) by simp [fieldCells, hy]] at v0
        have HY := Lib.hid hy
        clear hs ut hy
        by_cases hy0 : y = 0
        · subst hy0
          have HE := Lib.hid (wsOf_zero t.fs m HY.out)
          gi_wp2
          go_roundw
          case rel => exact ⟨m + 1, _, by omega, by go_num, by rw [HE.out, HWN.out]; exact HS2.out⟩
          case measure => simp [intOf]; omega
        · have hyb : (y == 0) = false := by simpa using hy0
          have HE := Lib.hid (wsOf_more t.fs m HY.out hy0)
          gi_wp2_with (gi_at_builtin; refine wpListIn_append_sep rfl _ _ 32 rfl 26 (.int .i64 0) 1 8 Try.underlying32 refInfo rfl (by decide) HS2.out 1 rfl rfl [.int .i64 y] rfl (by simp [Value.oneCell']) rfl (by unfold maxLen; omega) (by omega) ?_; intro g4 cap4 w4 hcap4 hcm4 hs4; have z6 := (hs4.blk 0 rfl).cell 0; have z7 := (hs4.blk 0 rfl).frozen 0; simp only [List.getElem?_toArray, List.getElem?_cons_zero] at z6; have HS4 := Lib.hid hs4; clear hs4)
          go_roundw
          case rel =>
            refine ⟨m + 1, .slice (some ⟨g4, 0, none⟩) (Wn + 1) cap4, by omega, by go_num, ?_⟩
            rw [HE.out]
            have := HS4.out.setCell 0 rfl 0 (.slice (some ⟨g4, 0, none⟩) (Wn + 1) cap4)
            simpa [encI, HWN.out] using this
          case measure => simp [intOf]; omega
      · obtain rfl : m = Fn := by omega
        have hall : wsOf t.fs m = t.fs.filter fun v => !(v == 0) := by
          unfold wsOf
          rw [← HFN.out, List.take_length]
        have HALL := Lib.hid hall
        have HWN2 := Lib.hid (show (t.fs.filter fun v => !(v == 0)).length = Wn by rw [← hall]; exact HWN.out)
        have hwn6 : Wn ≤ 6 := by omega
        have hsb := hs.box #[.int .i64 0] 3
        obtain ⟨T3, hT3⟩ : ∃ T, wr.heap.size = T := ⟨_, rfl⟩
        rw [hT3, hall] at hsb
        have HSB := Lib.hid hsb
        have xt := (hsb.front 7 [6, 0, 1, 2, 3, 4, 5]).thingOut HK.out
        have x0 := (xt.blk 0 rfl).cell 0
        have x1 := (xt.blk 0 rfl).cell 1
        simp only [List.getElem?_toArray, List.getElem?_cons_zero, List.getElem?_cons_succ] at x0 x1
        have HC := Lib.hid (CPoints hsb a (t.r : Int))
        clear hs ut hsb HS2 hall HWN xt
        gi_wp2_with (gi_at_call 47; refine (calls_in HC.out).mono ?_; rintro e w8 ⟨rfl, hs⟩; try simp only [World.size_alloc, hT3] at hs; have HS8 := Lib.hid hs; clear hs HC)
        try simp only [World.size_alloc, hT3]
        obtain ⟨P2, hP2⟩ : ∃ P, T3 + 1 = P := ⟨_, rfl⟩
        simp only [hP2]
        have hs9 := HS8.out
        rw [hP2] at hs9
        have hs10 : Sep w w8 (blkR P2 23 #[.pointer (some ⟨a, 0, none⟩)] :: blkR (P2 + 1) 26 #[.int .i64 (t.r : Int)] :: arenaR a B :: marksR Ds :: blkR T3 3 #[.int .i64 0] :: blkR T 32 #[.slice AW Wn capw] :: rowR 26 1 (.slice AW Wn capw) Wn ((t.fs.filter fun v => !(v == 0)).map encI) :: rowR 66 1 (.slice (some ⟨g, 0, none⟩) Ln cap) Ln (ts.map encT) :: thingsR ts :: blkR (b0 + 1) 4 #[.bool false] :: blkR b0 5 #[.int .u8 leave] :: []) := hs9.front 11 [1, 0, 6, 5, 2, 3, 4, 7, 8, 9, 10]
        have HS9 := Lib.hid (show Sep w w8 ([blkR P2 23 #[.pointer (some ⟨a, 0, none⟩)], blkR (P2 + 1) 26 #[.int .i64 (t.r : Int)], arenaR a B] ++ (marksR Ds :: blkR T3 3 #[.int .i64 0] :: blkR T 32 #[.slice AW Wn capw] :: rowR 26 1 (.slice AW Wn capw) Wn ((t.fs.filter fun v => !(v == 0)).map encI) :: rowR 66 1 (.slice (some ⟨g, 0, none⟩) Ln cap) Ln (ts.map encT) :: thingsR ts :: blkR (b0 + 1) 4 #[.bool false] :: blkR b0 5 #[.int .u8 leave] :: [])) from hs10)
        clear hs9 hs10 HS8 hP2 HSB hT3 u0 u1 x0 x1 z0 zf hok0 hokf
        refine wp_rangeM (gf := 60) (lb := #[.pointer (some ⟨P2, 0, none⟩), .pointer (some ⟨P2 + 1, 0, none⟩)]) rfl (enters_of Try.func60 (by kernel_rfl) rfl) (opoints_iter P2 (P2 + 1) a B HLK.out.wf HO.out) (fun _ => rfl) HS9.out
          (fun pre Rs => Rs = blkR T3 3 #[.int .i64 (pre.length : Int)] :: blkR T 32 #[.slice AW Wn capw] :: rowR 26 1 (.slice AW Wn capw) Wn ((t.fs.filter fun v => !(v == 0)).map encI) :: rowR 66 1 (.slice (some ⟨g, 0, none⟩) Ln cap) Ln (ts.map encT) :: thingsR ts :: blkR (b0 + 1) 4 #[.bool false] :: blkR b0 5 #[.int .u8 leave] :: [] ∧ (pre.length = 0 ∨ pre.length ≠ Lv)) (fun c pre Rs => c = .exit 4 ∧ Rs = blkR T3 3 #[.int .i64 (pre.length : Int)] :: blkR T 32 #[.slice AW Wn capw] :: rowR 26 1 (.slice AW Wn capw) Wn ((t.fs.filter fun v => !(v == 0)).map encI) :: rowR 66 1 (.slice (some ⟨g, 0, none⟩) Ln cap) Ln (ts.map encT) :: thingsR ts :: blkR (b0 + 1) 4 #[.bool false] :: blkR b0 5 #[.int .u8 leave] :: [] ∧ pre.length = Lv) ⟨rfl, .inl rfl⟩ ?round0 ?done0 ?stop0
        case round0 =>
          rintro l1 pre x _ G V1 r1 hpre ⟨rfl, hpl⟩ hS1
          simp only [List.cons_append, List.nil_append] at hS1
          obtain ⟨K, hK⟩ : ∃ K, pre.length = K := ⟨_, rfl⟩
          have hget : (t.fs.filter fun v => !(v == 0))[K]? = some x := by
            obtain ⟨t', ht'⟩ := hpre
            rw [← ht', ← hK]
            simp
          have hKl : K < Wn := by rw [← HWN2.out]; exact (List.getElem?_eq_some_iff.1 hget).1
          have HS1 := Lib.hid hS1
          clear hpre hS1 HS9
          gi_wp2
          refine ⟨[], HS1.out, ?_⟩
          intro r' V2 hS2
          simp only [List.cons_append, List.nil_append] at hS2
          rw [hK] at hS2 hpl
          have HK9 := Lib.hid hK
          clear hK HS1
          obtain ⟨g9, cap9, hsl, _, _⟩ := hS2.rowSome 6 rfl (by omega)
          simp only [Value.slice.injEq] at hsl
          obtain ⟨rfl, _, rfl⟩ := hsl
          have e1 := (hS2.blk 4 rfl).frozen 0
          have e2 := (hS2.blk 5 rfl).cell 0
          have e3 := (hS2.blk 10 rfl).cell 0
          have e0 := (hS2.blk 4 rfl).cell 0
          have hba : T3 ≠ b0 := hS2.apart (i := 4) (j := 10) rfl rfl (by decide)
          have hab : b0 ≠ T3 := Ne.symm hba
          have e4 := hS2.rowCell 6 rfl K (encI x) (by rw [List.getElem?_map, hget]; rfl)
          simp only [List.getElem?_toArray, List.getElem?_cons_zero, encI] at e0 e2 e3 e4
          have hKI : (K : Int) < (Wn : Int) := by omega
          have hwn6 : Wn ≤ 6 := hwn6
          have HS2 := Lib.hid hS2
          clear hS2 hget
          by_cases hb : (K : Int) + 1 = (Lv : Int)
          · have hbb : ((K : Int) + 1 == (Lv : Int)) = true := by simpa using hb
            gi_wp2
            refine ⟨_, ⟨rfl, rfl, by rw [List.length_append, HK9.out]; simp; omega⟩, ?_⟩
            rw [← hb]
            have := HS2.out.setCell 4 rfl 0 (.int .i64 ((K : Int) + 1))
            simpa [HK9.out] using this
          · have hbb : ((K : Int) + 1 == (Lv : Int)) = false := by simpa using hb
            gi_wp2
            refine ⟨_, ⟨rfl, by rw [List.length_append, HK9.out]; simp; omega⟩, ?_⟩
            have := HS2.out.setCell 4 rfl 0 (.int .i64 ((K : Int) + 1))
            simpa [HK9.out] using this
        case stop0 =>
          rintro Ds2 _ pre _ V _ ⟨rfl, rfl, hpl⟩ hS
          simp only [List.cons_append, List.nil_append] at hS
          obtain ⟨K, hK⟩ : ∃ K, pre.length = K := ⟨_, rfl⟩
          have hKW : K = Lv := by rw [← hK]; exact hpl
          rw [hK] at hS
          clear hK
          have e0 := (hS.blk 4 rfl).cell 0
          have e2 := (hS.blk 5 rfl).cell 0
          have e3 := (hS.blk 10 rfl).cell 0
          simp only [List.getElem?_toArray, List.getElem?_cons_zero] at e0 e2 e3
          subst hKW
          have HSD := Lib.hid hS
          clear hS HS9
          by_cases hw0 : (K : Int) = (Wn : Int)
          · have hwb : ((K : Int) != (Wn : Int)) = false := by simpa using hw0
            gi_wp2
            refine ⟨Ds2, rfl, by kernel_rfl, ⟨k + 1, by omega, rfl, ?_⟩, ?_⟩
            · exact Sep.left (L := marksR Ds2 :: arenaR a B :: rowR 66 1 (.slice (some ⟨g, 0, none⟩) Ln cap) Ln (ts.map encT) :: thingsR ts :: blkR (b0 + 1) 4 #[.bool false] :: blkR b0 5 #[.int .u8 leave] :: []) (R := [_, _, _, _, _]) (HSD.out.front 11 [3, 2, 7, 8, 9, 10, 0, 1, 4, 5, 6])
            · show Ln + 1 - (intOf (.int .i64 ((k : Int) + 1))).toNat < Ln + 1 - (intOf (.int .i64 (k : Int))).toNat
              simp [intOf]
              omega
          · have hwb : ((K : Int) != (Wn : Int)) = true := by simpa using hw0
            gi_wp2
            refine ⟨Ds2, rfl, by kernel_rfl, ⟨k + 1, by omega, rfl, ?_⟩, ?_⟩
            · exact Sep.left (L := marksR Ds2 :: arenaR a B :: rowR 66 1 (.slice (some ⟨g, 0, none⟩) Ln cap) Ln (ts.map encT) :: thingsR ts :: blkR (b0 + 1) 4 #[.bool false] :: blkR b0 5 #[.int .u8 leave] :: []) (R := [_, _, _, _, _]) (HSD.out.front 11 [3, 2, 7, 8, 9, 10, 0, 1, 4, 5, 6])
            · show Ln + 1 - (intOf (.int .i64 ((k : Int) + 1))).toNat < Ln + 1 - (intOf (.int .i64 (k : Int))).toNat
              simp [intOf]
              omega
        case done0 =>
          rintro Ds2 _ V ⟨hR, hpl⟩ hS
          subst hR
          simp only [List.cons_append, List.nil_append] at hS
          obtain ⟨K, hK⟩ : ∃ K, (t.fs.filter fun v => !(v == 0)).length = K := ⟨_, rfl⟩
          have hKW : K = Wn := by rw [← hK, HWN2.out]
          rw [hK] at hS
          clear hK
          have e0 := (hS.blk 4 rfl).cell 0
          have e2 := (hS.blk 5 rfl).cell 0
          have e3 := (hS.blk 10 rfl).cell 0
          simp only [List.getElem?_toArray, List.getElem?_cons_zero] at e0 e2 e3
          subst hKW
          have HSD := Lib.hid hS
          clear hS HS9
          gi_wp2

          refine ⟨Ds2, rfl, by kernel_rfl, ⟨k + 1, by omega, rfl, ?_⟩, ?_⟩
          · exact Sep.left (L := marksR Ds2 :: arenaR a B :: rowR 66 1 (.slice (some ⟨g, 0, none⟩) Ln cap) Ln (ts.map encT) :: thingsR ts :: blkR (b0 + 1) 4 #[.bool false] :: blkR b0 5 #[.int .u8 leave] :: []) (R := [_, _, _, _, _]) (HSD.out.front 11 [3, 2, 7, 8, 9, 10, 0, 1, 4, 5, 6])
          · show Ln + 1 - (intOf (.int .i64 ((k : Int) + 1))).toNat < Ln + 1 - (intOf (.int .i64 (k : Int))).toNat
            simp [intOf]
            omega
  · obtain rfl : k = Ln := by omega
    have HC := Lib.hid (CPoints hs a 0)
    obtain ⟨P2, hP2⟩ : ∃ P, wr.heap.size = P := ⟨_, rfl⟩
    clear hs
    gi_wp2_with (gi_at_call 47; refine (calls_in HC.out).mono ?_; rintro e w8 ⟨rfl, hs⟩; try simp only [hP2] at hs; have HS8 := Lib.hid hs; clear hs HC)
    try simp only [hP2]
    have hs9 := HS8.out
    try rw [hP2] at hs9
    have hs10 : Sep w w8 (blkR P2 23 #[.pointer (some ⟨a, 0, none⟩)] :: blkR (P2 + 1) 26 #[.int .i64 0] :: arenaR a B :: marksR Ds :: rowR 66 1 (.slice AA k cap) k (ts.map encT) :: thingsR ts :: blkR (b0 + 1) 4 #[.bool false] :: blkR b0 5 #[.int .u8 leave] :: []) := hs9.front 4 [1, 0, 3, 2]
    have HS9 := Lib.hid (show Sep w w8 ([blkR P2 23 #[.pointer (some ⟨a, 0, none⟩)], blkR (P2 + 1) 26 #[.int .i64 0], arenaR a B] ++ (marksR Ds :: rowR 66 1 (.slice AA k cap) k (ts.map encT) :: thingsR ts :: blkR (b0 + 1) 4 #[.bool false] :: blkR b0 5 #[.int .u8 leave] :: [])) from hs10)
    clear hs9 hs10 HS8 hP2
    refine wp_rangeM (gf := 60) (lb := #[.pointer (some ⟨P2, 0, none⟩), .pointer (some ⟨P2 + 1, 0, none⟩)]) rfl (enters_of Try.func60 (by kernel_rfl) rfl) (points_iter P2 (P2 + 1) a 0 0 B HLK.out.wf (by omega) (wordZ_nil HLK.out.wf 0) (by omega) (fun h => absurd h (by omega))) (fun _ => rfl) HS9.out
      (fun pre Rs => Rs = rowR 66 1 (.slice AA k cap) k (ts.map encT) :: thingsR ts :: blkR (b0 + 1) 4 #[.bool false] :: blkR b0 5 #[.int .u8 leave] :: []) (fun _ _ _ => False) rfl ?roundE ?doneE ?stopE
    case stopE => rintro _ _ _ _ _ _ h; exact h.elim
    case roundE =>
      rintro l1 pre x _ G V1 r1 hpre rfl hS1
      have h1 := hpre.length_le
      rw [List.length_append] at h1
      simp [AR.pointsUpto] at h1
    case doneE =>
      rintro Ds2 _ V hR hS
      subst hR
      simp only [List.cons_append, List.nil_append] at hS
      have hf0 := (hS.blk 6 rfl).frozen 0
      have hc0 := (hS.blk 6 rfl).cell 0
      simp only [List.getElem?_toArray, List.getElem?_cons_zero] at hc0
      have HSD := Lib.hid hS
      clear hS HS9 hok0 hokf
      gi_wp2
      have hf := (HSD.out.setCell 6 rfl 0 (.bool true)).front 4 [3, 0, 1, 2]
      exact leavesM_box hf 5 rfl rfl rfl (fun w' hs => ⟨rfl, hs.below⟩)
end Go.Proofs.Ytapbphbnffggnaa
