/-
  Parts of the proof, joined: Yua, Fit14, YuasaQuietW. Conditions: as each part says.
-/
import Derived.Test.YtacebfocfpbkdaaL5
import Derived.Test.YtacebfocfpbkdaaL1

/-
  The barrier of layer 14: what it holds, and a contract for each method. Conditions: as the theorem says.
-/
namespace Go.Proofs.Ytacebfocfpbkdaa
set_option linter.unusedVariables false
set_option linter.unusedSimpArgs false
open Go.RowKit Go.Shelf

def yuaR (b m : Nat) : Res := blkR b 87 #[.func (.func 20) #[.pointer (some ⟨m, 0, none⟩)] #[]]
section
variable {w0 w : World} {L : List Res} {m a n : Nat} {C : Col}
theorem YNew (S : Sep w0 w L) (m : Nat) : Calls Try.prog 30 #[.pointer (some ⟨m, 0, none⟩)] w fun e w' => ∃ b, e = .returned (.pointer (some ⟨b, 0, none⟩)) ∧ Sep w0 w' (yuaR b m :: L) := by
  have HS := Lib.hid (S.box #[.func (.func 20) #[.pointer (some ⟨m, 0, none⟩)] #[]] 87)
  have hmf : ∀ (fn : Fn) (first cap : Array Value) (w : World), (Instr.makeFunc fn first cap).run Try.prog w = .ok (.func fn first cap) w := fun _ _ _ _ => rfl
  clear S
  go_enter Try.func30, Try.ntmps30
  go_wp2
  go_ret
  exact ⟨w.heap.size, rfl, HS.out⟩
theorem YRemark (w : World) (b : Nat) : Calls Try.prog 34 #[.pointer (some ⟨b, 0, none⟩)] w fun e w' => e = .returned (.tuple #[]) ∧ w = w' := by
  go_enter Try.func34, Try.ntmps34
  go_wp2
  go_end0
  exact ⟨rfl, rfl⟩
theorem YReset (w : World) (b : Nat) : Calls Try.prog 35 #[.pointer (some ⟨b, 0, none⟩)] w fun e w' => e = .returned (.tuple #[]) ∧ w = w' := by
  go_enter Try.func35, Try.ntmps35
  go_wp2
  go_end0
  exact ⟨rfl, rfl⟩
theorem YRescans (w : World) (b : Nat) : Calls Try.prog 59 #[.pointer (some ⟨b, 0, none⟩)] w fun e w' => e = .returned (.bool false) ∧ w = w' := by
  go_enter Try.func59, Try.ntmps59
  go_wp2
  go_ret
  exact ⟨rfl, rfl⟩
theorem YPre {b : Nat} (S : Sep w0 w L) (i j : Nat) (hi : L[i]? = some (yuaR b m)) (hj : L[j]? = some (markR m a n C)) (src : Int) (old : Nat) (ho : old < n) :
    Calls Try.prog 31 #[.pointer (some ⟨b, 0, none⟩), .int .i64 src, .int .i64 (old : Int)] w fun e w' => e = .returned (.tuple #[]) ∧ Sep w0 w' (L.set j (markR m a n (C.shade0 old))) := by
  have c0 := (S.blk i (by simpa [yuaR] using hi)).cell 0
  simp only [List.getElem?_toArray, List.getElem?_cons_zero, List.getElem?_cons_succ] at c0
  have HC := Lib.hid (KShade0 S j hj old ho)
  clear S hi hj
  go_enter Try.func31, Try.ntmps31
  go_wp2_with (go_at_call 20; refine HC.out.mono ?_; rintro e w7 ⟨rfl, hs⟩; have HS := Lib.hid hs; clear hs HC)
  go_end0
  exact ⟨rfl, HS.out⟩
set_option maxRecDepth 100000 in
set_option maxHeartbeats 2000000 in
theorem YPost {b : Nat} (S : Sep w0 w L) (i j : Nat) (hi : L[i]? = some (yuaR b m)) (hij : i ≠ j) (hj : L[j]? = some (markR m a n C)) (src : Int) (old y : Nat) (black early : Bool) (ho : old < n) (hy : y < n) :
    Calls Try.prog 32 #[.pointer (some ⟨b, 0, none⟩), (.agg #[.int .i64 src, .int .i64 (old : Int), .int .i64 (y : Int), .bool black, .bool early])] w fun e w' => e = .returned (.tuple #[]) ∧ Sep w0 w' (L.set j (markR m a n (if early = true then (C.shade0 old).shade0 y else C.shade0 old))) := by
  obtain ⟨T, hT⟩ : ∃ T, w.heap.size = T := ⟨_, rfl⟩
  have hb := S.box #[.int .i64 src, .int .i64 (old : Int), .int .i64 (y : Int), .bool black, .bool early] 45
  rw [hT] at hb
  have HB := Lib.hid hb
  have HI1 := Lib.hid (show (blkR T 45 #[.int .i64 src, .int .i64 (old : Int), .int .i64 (y : Int), .bool black, .bool early] :: L)[i + 1]? = some (yuaR b m) by simpa using hi)
  have HJ1 := Lib.hid (show (blkR T 45 #[.int .i64 src, .int .i64 (old : Int), .int .i64 (y : Int), .bool black, .bool early] :: L)[j + 1]? = some (markR m a n C) by simpa using hj)
  have HI2 := Lib.hid (show ((blkR T 45 #[.int .i64 src, .int .i64 (old : Int), .int .i64 (y : Int), .bool black, .bool early] :: L).set (j + 1) (markR m a n (C.shade0 old)))[i + 1]? = some (yuaR b m) by rw [List.getElem?_set_ne (by omega)]; simpa using hi)
  have HJ2 := Lib.hid (show ((blkR T 45 #[.int .i64 src, .int .i64 (old : Int), .int .i64 (y : Int), .bool black, .bool early] :: L).set (j + 1) (markR m a n (C.shade0 old)))[j + 1]? = some (markR m a n (C.shade0 old)) by
    have := (List.getElem?_eq_some_iff.1 hj).1
    simp [this])
  have hro : Try.prog.follows .mixedOrders = true := by kernel_rfl
  clear S hi hj hb hij
  go_enter Try.func32, Try.ntmps32
  go_wp2
  obtain ⟨wd1, hwd1⟩ : ∃ wd, (w.alloc (.cells #[.int .i64 src, .int .i64 (old : Int), .int .i64 (y : Int), .bool black, .bool early] 45)).drew = wd := ⟨_, rfl⟩
  have hd := HB.out.drew
  rw [hwd1] at hd
  have x0 := (hd.blk (i + 1) (by have := HI1.out; unfold yuaR at this; exact this)).cell 0
  have x1 := (hd.blk 0 rfl).cell 1
  simp only [List.getElem?_toArray, List.getElem?_cons_zero, List.getElem?_cons_succ] at x0 x1
  try simp only [hT]
  have HS2 := Lib.hid hd
  clear hd HB
  refine wp_region_still_tail 6 (by kernel_rfl) (by kernel_rfl) ?_
  change wpStill _ _ (World.drew _) (fun a' => wpList _ _ _ _ a' (World.drew _)) _ _
  rw [hwd1]
  clear hwd1
  simp only [List.take_succ_cons, List.take_zero, List.drop_succ_cons, List.drop_zero]
  repeat still_step
  refine wpStill_nil ?_
  have HC := Lib.hid (KShade0 HS2.out (j + 1) HJ1.out old ho)
  clear HS2
  cases early
  · go_wp2_with (go_at_call 20; refine (HC.out).mono ?_; rintro e w7 ⟨rfl, hs⟩; clear x0 x1; have y1 := (hs.blk 0 rfl).cell 4; simp only [List.getElem?_toArray, List.getElem?_cons_zero, List.getElem?_cons_succ] at y1; have HS3 := Lib.hid hs; clear hs HC)
    go_end0
    exact ⟨rfl, HS3.out.tail⟩
  · go_wp2_with (go_at_call 20; refine (HC.out).mono ?_; rintro e w7 ⟨rfl, hs⟩; clear x0 x1; have y1 := (hs.blk 0 rfl).cell 4; simp only [List.getElem?_toArray, List.getElem?_cons_zero, List.getElem?_cons_succ] at y1; have HS3 := Lib.hid hs; clear hs HC)
    obtain ⟨wd2, hwd2⟩ : ∃ wd, (w7).drew = wd := ⟨_, rfl⟩
    have hd := HS3.out.drew
    rw [hwd2] at hd
    have x0 := (hd.blk (i + 1) (by have := HI2.out; unfold yuaR at this; exact this)).cell 0
    have x1 := (hd.blk 0 rfl).cell 2
    simp only [List.getElem?_toArray, List.getElem?_cons_zero, List.getElem?_cons_succ] at x0 x1
    have HS4 := Lib.hid hd
    clear hd HS3
    refine wp_region_still_tail 6 (by kernel_rfl) (by kernel_rfl) ?_
    change wpStill _ _ (World.drew _) (fun a' => wpList _ _ _ _ a' (World.drew _)) _ _
    rw [hwd2]
    clear hwd2
    simp only [List.take_succ_cons, List.take_zero, List.drop_succ_cons, List.drop_zero]
    repeat still_step
    refine wpStill_nil ?_
    have HC := Lib.hid (KShade0 HS4.out (j + 1) HJ2.out y hy)
    clear HS4
    go_wp2_with (go_at_call 20; refine (HC.out).mono ?_; rintro e w8 ⟨rfl, hs⟩; clear x0 x1; have HS5 := Lib.hid hs; clear hs HC)
    go_end0
    refine ⟨rfl, ?_⟩
    have h5 := HS5.out
    rw [List.set_set] at h5
    exact h5.tail
theorem YPre0 {b : Nat} (S : Sep w0 w L) (i j : Nat) (hi : L[i]? = some (yuaR b m)) (hj : L[j]? = some (markR m a n C)) (src : Int) (hn : 0 < n) :
    Calls Try.prog 31 #[.pointer (some ⟨b, 0, none⟩), .int .i64 src, .int .i64 0] w fun e w' => e = .returned (.tuple #[]) ∧ Sep w0 w' L := by
  have h := YPre S i j hi hj src 0 hn
  rw [shade0_zero, set_self hj] at h
  exact h
/-- Nothing was there. -/
theorem YPostNew {b : Nat} (S : Sep w0 w L) (i j : Nat) (hi : L[i]? = some (yuaR b m)) (hij : i ≠ j) (hj : L[j]? = some (markR m a n C)) (src : Int) (y : Nat) (black early : Bool) (hn : 0 < n) (hy : y < n) :
    Calls Try.prog 32 #[.pointer (some ⟨b, 0, none⟩), .agg #[.int .i64 src, .int .i64 0, .int .i64 (y : Int), .bool black, .bool early]] w fun e w' => e = .returned (.tuple #[]) ∧ Sep w0 w' (L.set j (markR m a n (if early = true then C.shade0 y else C))) := by
  have h := YPost S i j hi hij hj src 0 y black early hn hy
  rw [shade0_zero] at h
  exact h
/-- Nothing at all. -/
theorem YPostNil {b : Nat} (S : Sep w0 w L) (i j : Nat) (hi : L[i]? = some (yuaR b m)) (hij : i ≠ j) (hj : L[j]? = some (markR m a n C)) (src : Int) (black early : Bool) (hn : 0 < n) :
    Calls Try.prog 32 #[.pointer (some ⟨b, 0, none⟩), .agg #[.int .i64 src, .int .i64 0, .int .i64 0, .bool black, .bool early]] w fun e w' => e = .returned (.tuple #[]) ∧ Sep w0 w' L := by
  have h := YPostNew S i j hi hij hj src 0 black early hn hn
  rw [shade0_zero, ite_self, set_self hj] at h
  exact h
end
end Go.Proofs.Ytacebfocfpbkdaa

/-
  fit of layer 14. Conditions: as the theorem says.
-/
namespace Go.Proofs.Ytacebfocfpbkdaa
set_option linter.unusedVariables false
set_option linter.unusedSimpArgs false
open Go.RowKit Go.Shelf

set_option maxRecDepth 100000 in
set_option maxHeartbeats 4000000 in
theorem fit14 (w : World) : Calls Try.prog 29 #[] w fun e w' => e = .returned (.bool true) ∧ Chg [] w w' := by
  obtain ⟨W, hW⟩ : ∃ W, w.alloc (.cells #[.int .u8 2, .int .u8 2, .int .u8 2] 5) = W := ⟨_, rfl⟩
  have hz := twos w 3 [.int .u8 2, .int .u8 2, .int .u8 2] rfl
  simp only [List.toArray] at hz
  have hch := (Chg.refl [] w).alloc (.cells #[.int .u8 2, .int .u8 2, .int .u8 2] 5)
  rw [hW] at hch
  have hz' : ArgI W (some ⟨w.heap.size, 0, none⟩) 3 [.u8] (fun _ _ => 2) := by rw [← hW]; exact hz
  have HZ := Lib.hid hz'
  have HCH := Lib.hid hch
  have HMD := Lib.hid (Made11 (some ⟨w.heap.size, 0, none⟩) 3 3 (fun _ _ => 2) none 0 0 (fun _ _ => 0) hz' (argI_none W _) (by omega) (by omega) (Sep.start W))
  have hro : Try.prog.follows .mixedOrders = true := by kernel_rfl
  clear hz hz' hch
  go_enter Try.func29, Try.ntmps29
  go_wp2_with (first
    | (go_at_call 18; refine (HMD.out).mono ?_; rintro e w3 ⟨a, b, v, A, rs, fs, rfl, hgr, hlen, hs⟩; obtain ⟨x, y, z, rfl⟩ : ∃ x y z, rs = [x, y, z] := (by match rs, hlen with | [x, y, z], _ => exact ⟨x, y, z, rfl⟩); have HGR := Lib.hid hgr; obtain ⟨g, capl, hv, _, _⟩ := hs.rowSome 1 rfl (by simp); rw [hv] at hs ⊢; have HS3 := Lib.hid hs; clear hs hgr hlen hv HMD)
    | (go_at_call 19; refine (KNew HS3.out 0 rfl HGR.out.size (by omega) 4 (by omega)).mono ?_; rintro e w4 ⟨m, rfl, hs⟩; have HC := Lib.hid (YNew hs m); clear hs HS3)
    | (go_at_call 30; refine (HC.out).mono ?_; rintro e w5 ⟨bb, rfl, hs⟩; have HS5 := Lib.hid (show Sep W w5 (yuaR bb m :: markR m a 2049 (Col.white) :: arenaR a A :: rowR 36 1 (.slice (some ⟨g, 0, none⟩) 3 capl) 3 (nums [x, y, z]) :: adjR Try.prog 36 36 b (ptsOf fs) :: []) from hs); clear hs HC))
  have HXL := Lib.hid (HGR.out.lt (x := x) (by simp))
  have HYL := Lib.hid (HGR.out.lt (x := y) (by simp))
  have HZL := Lib.hid (HGR.out.lt (x := z) (by simp))
  have HND := Lib.hid (show y ≠ x ∧ z ≠ x ∧ z ≠ y from by
    have := HGR.out.nodup
    simp only [List.nodup_cons, List.mem_cons, List.mem_nil_iff, or_false, not_or] at this
    exact ⟨fun e => this.1.1 e.symm, fun e => this.1.2 e.symm, fun e => this.2.1 e.symm⟩)
  obtain ⟨wd1, hwd1⟩ : ∃ wd, (w5).drew = wd := ⟨_, rfl⟩
  have hd := HS5.out.drew
  rw [hwd1] at hd
  have x0 := hd.rowCell 3 rfl 0 _ (nums_get [x, y, z] 0 x rfl); have x1 := hd.rowCell 3 rfl 1 _ (nums_get [x, y, z] 1 y rfl); have x2 := hd.rowCell 3 rfl 2 _ (nums_get [x, y, z] 2 z rfl)
  have HS6 := Lib.hid hd
  clear hd HS5
  refine wp_region_still_tail 7 (by kernel_rfl) (by kernel_rfl) ?_
  change wpStill _ _ (World.drew _) (fun a' => wpList _ _ _ _ a' (World.drew _)) _ _
  rw [hwd1]
  clear hwd1
  simp only [List.take_succ_cons, List.take_zero, List.drop_succ_cons, List.drop_zero]
  repeat still_step
  refine wpStill_nil ?_
  have HCP := Lib.hid (YPre HS6.out 0 1 rfl rfl (x : Int) y HYL.out.2)
  clear x0 x1 x2
  go_wp2_with (go_at_call 31; refine (HCP.out).mono ?_; rintro e w6 ⟨rfl, hs⟩; have HS7 := Lib.hid hs; clear hs HCP HS6)
  have HS7' := HS7
  obtain ⟨wd2, hwd2⟩ : ∃ wd, (w6).drew = wd := ⟨_, rfl⟩
  have hd := HS7.out.drew
  rw [hwd2] at hd
  have x0 := hd.rowCell 3 rfl 0 _ (nums_get [x, y, z] 0 x rfl); have x1 := hd.rowCell 3 rfl 1 _ (nums_get [x, y, z] 1 y rfl); have x2 := hd.rowCell 3 rfl 2 _ (nums_get [x, y, z] 2 z rfl)
  have HS8 := Lib.hid hd
  clear hd HS7
  refine wp_region_still_tail 11 (by kernel_rfl) (by kernel_rfl) ?_
  change wpStill _ _ (World.drew _) (fun a' => wpList _ _ _ _ a' (World.drew _)) _ _
  rw [hwd2]
  clear hwd2
  simp only [List.take_succ_cons, List.take_zero, List.drop_succ_cons, List.drop_zero]
  repeat still_step
  refine wpStill_nil ?_
  have HCQ := Lib.hid (YPost HS8.out 0 1 rfl (by decide) rfl (x : Int) y z false false HYL.out.2 HZL.out.2)
  clear x0 x1 x2 HS7'
  go_wp2_with (first
    | (go_at_call 32; refine (HCQ.out).mono ?_; rintro e w7 ⟨rfl, hs⟩; simp only [Bool.false_eq_true, if_false] at hs; have x0 := hs.rowCell 3 rfl 0 _ (nums_get [x, y, z] 0 x rfl); have x1 := hs.rowCell 3 rfl 1 _ (nums_get [x, y, z] 1 y rfl); have x2 := hs.rowCell 3 rfl 2 _ (nums_get [x, y, z] 2 z rfl); have HS9 := Lib.hid hs; clear hs HCQ HS8)
    | (go_at_call 59; refine (YRescans _ bb).mono ?_; rintro e w8 ⟨rfl, rfl⟩; have HM1 := Lib.hid (KMarked HS9.out 1 rfl y HYL.out.2))
    | (go_at_call 27; refine (HM1.out).mono ?_; rw [show ((Col.white.shade0 y).shade0 y).mz y = true by simp [shade0_mz, Nat.pos_iff_ne_zero.1 HYL.out.1]]; rintro e w9 ⟨rfl, hs⟩; have x0 := hs.rowCell 3 rfl 0 _ (nums_get [x, y, z] 0 x rfl); have x1 := hs.rowCell 3 rfl 1 _ (nums_get [x, y, z] 1 y rfl); have x2 := hs.rowCell 3 rfl 2 _ (nums_get [x, y, z] 2 z rfl); have HM2 := Lib.hid (KMarked hs 1 rfl x HXL.out.2); clear hs HM1)
    | (go_at_call 27; refine (HM2.out).mono ?_; rw [show ((Col.white.shade0 y).shade0 y).mz x = false by simp [shade0_mz, Col.white, HND.out.1.symm]]; rintro e w10 ⟨rfl, hs⟩; have x0 := hs.rowCell 3 rfl 0 _ (nums_get [x, y, z] 0 x rfl); have x1 := hs.rowCell 3 rfl 1 _ (nums_get [x, y, z] 1 y rfl); have x2 := hs.rowCell 3 rfl 2 _ (nums_get [x, y, z] 2 z rfl); have HM3 := Lib.hid (KMarked hs 1 rfl z HZL.out.2); clear hs HM2)
    | (go_at_call 27; refine (HM3.out).mono ?_; rw [show ((Col.white.shade0 y).shade0 y).mz z = false by simp [shade0_mz, Col.white, HND.out.2.2]]; rintro e w11 ⟨rfl, hs⟩; have HS10 := Lib.hid hs; clear hs HM3))
  go_ret
  exact ⟨rfl, HCH.out.trans HS10.out.chg (by simp)⟩
end Go.Proofs.Ytacebfocfpbkdaa

/-
  The walk of YuasaQuiet. Conditions: as the theorem says.
-/
namespace Go.Proofs.Ytacebfocfpbkdaa
set_option linter.unusedVariables false
set_option linter.unusedSimpArgs false
open Go.RowKit Go.Shelf

set_option maxRecDepth 100000 in
set_option maxHeartbeats 16000000 in
theorem yuasaQuiet_walk (A0 : Option Addr) (n0 c0 : Nat) (D0 : Nat → Nat → Int) (A1 : Option Addr) (n1 c1 : Nat) (D1 : Nat → Nat → Int) (A2 : Option Addr) (n2 c2 : Nat) (D2 : Nat → Nat → Int) (w : World) (hz0 : ArgI w A0 n0 [.u8] D0) (hm0 : n0 ≤ maxLen) (hz1 : ArgI w A1 n1 [.u16, .u16, .u16] D1) (hm1 : n1 ≤ maxLen) (hz2 : ArgI w A2 n2 [.u8, .u8] D2) (hm2 : n2 ≤ maxLen) :
    Calls Try.prog 13 #[.agg #[.slice A0 n0 c0, .slice A1 n1 c1], .slice A2 n2 c2] w fun e w' => e = .returned (.bool true) ∧ Below w.heap.size w w' := by
  have HZ0 := Lib.hid hz0
  have HZ1 := Lib.hid hz1
  have HZ2 := Lib.hid hz2
  unfold maxLen at hm0 hm1
  try unfold maxLen at hm2
  clear hz0 hz1 hz2
  obtain ⟨T, hT⟩ : ∃ T, w.heap.size = T := ⟨_, rfl⟩
  have hs0 := (Sep.start w).box #[.slice A0 n0 c0, .slice A1 n1 c1] 25
  rw [hT] at hs0
  have HS0 := Lib.hid hs0
  clear hs0
  go_enter Try.func13, Try.ntmps13
  by_cases hsmall : (n0 ≤ 40 ∧ n1 ≤ 120) ∧ n2 ≤ 40
  · have hsd : (decide (n0 ≤ 40) && decide (n1 ≤ 120)) = true := by rw [decide_eq_true hsmall.1.1, decide_eq_true hsmall.1.2]; rfl
    have HSD := Lib.hid hsd
    obtain ⟨⟨hn0, hn1⟩, hn2⟩ := hsmall
    clear hsd
    have hgt : ¬ (40 : Int) < (n2 : Int) := by omega
    go_wp2_with (first
      | (go_at_call 29; refine (fit14 _).mono ?_; rintro e w1 ⟨rfl, hC⟩; have hs1 := HS0.out.same hC; have p0 := (hs1.blk 0 rfl).cell 0; have p1 := (hs1.blk 0 rfl).cell 1; simp only [List.getElem?_toArray, List.getElem?_cons_zero, List.getElem?_cons_succ] at p0 p1; have HS1 := Lib.hid hs1; clear hC hs1 HS0)
      | (go_at_call 17; refine (Small11 _ A0 n0 c0 A1 n1 c1).mono ?_; rw [HSD.out]; rintro e w2 ⟨rfl, hC⟩; have hs1 := HS1.out.same hC; have p0 := (hs1.blk 0 rfl).cell 0; have p1 := (hs1.blk 0 rfl).cell 1; simp only [List.getElem?_toArray, List.getElem?_cons_zero, List.getElem?_cons_succ] at p0 p1; have HS2 := Lib.hid hs1; clear hC hs1 HS1)
      | (go_at_call 18; refine (Made11 A0 n0 c0 D0 A1 n1 c1 D1 HZ0.out HZ1.out hn0 hn1 HS2.out).mono ?_; rintro e w3 ⟨a, b, v, A, rs, fs, rfl, hgr, hlen, hs⟩; have p0 := (hs.blk 3 rfl).cell 0; have p1 := (hs.blk 3 rfl).cell 1; simp only [List.getElem?_toArray, List.getElem?_cons_zero, List.getElem?_cons_succ] at p0 p1; have HGR := Lib.hid hgr; obtain ⟨AL, capl, rfl, hcapl, hmcapl⟩ := hs.rowShape 1 rfl; unfold maxLen at hmcapl; obtain ⟨Rn, hRn⟩ : ∃ Rn, rs.length = Rn := ⟨_, rfl⟩; have HRN := Lib.hid hRn; rw [hRn] at hcapl hs; try rw [hRn]; rw [hRn] at hlen; have hl40 : Rn ≤ 40 := (by omega); have HLEN := Lib.hid hlen; have HS3 := Lib.hid hs; clear hs hgr HS2 hRn hlen)
      | (go_at_call 19; refine (KNew HS3.out 0 rfl HGR.out.size (by omega) 4 (by omega)).mono ?_; rintro e w4 ⟨m, rfl, hs⟩; have HC := Lib.hid (YNew hs m); clear hs HS3)
      | (go_at_call 30; refine (HC.out).mono ?_; rintro e w5 ⟨bb, rfl, hs⟩; have HS5 := Lib.hid (show Sep w w5 (yuaR bb m :: markR m a 2049 (Col.white) :: arenaR a A :: rowR 36 1 (.slice AL Rn capl) Rn (nums rs) :: adjR Try.prog 36 36 b (ptsOf fs) :: blkR T 25 #[.slice A0 n0 c0, .slice A1 n1 c1] :: []) from hs); clear hs HC))
    go_loopw [36] (fun i wr => ∃ k : Nat, k ≤ n2 ∧ i = .int .i64 k ∧ Sep w wr (yuaR bb m :: markR m a 2049 (Col.white) :: arenaR a A :: rowR 36 1 (.slice AL Rn capl) Rn (nums rs) :: adjR Try.prog 36 36 b (ptsOf fs) :: blkR T 25 #[.slice A0 n0 c0, .slice A1 n1 c1] :: [])) (fun i _ => n2 + 1 - (intOf i).toNat)
    case atStart => exact ⟨0, by omega, rfl, HS5.out⟩
    case round =>
      clear HS5
      obtain ⟨k, hk, rfl, hs⟩ := hrel
      by_cases hlt : k < n2
      · have hltI : (k : Int) < (n2 : Int) := by omega
        rcases Nat.eq_zero_or_pos Rn with hk0 | hkp
        · obtain ⟨ab, ao, hA0, hcell⟩ := HZ2.out.at_ hs.own hlt
          subst hA0
          have hc0 := hcell 0 _ rfl
          have hw0 := wf8 (HZ2.out.wf hlt 0 .u8 rfl)
          have hc1 := hcell 1 _ rfl
          have hw1 := wf8 (HZ2.out.wf hlt 1 .u8 rfl)
          simp at hc0 hc1
          obtain ⟨d0, h0⟩ : ∃ d, D2 k 0 = d := ⟨_, rfl⟩
          rw [h0] at hc0 hw0
          obtain ⟨d1, h1⟩ : ∃ d, D2 k 1 = d := ⟨_, rfl⟩
          rw [h1] at hc1 hw1
          clear hcell h0 h1
          have hkI : (Rn : Int) = 0 := by omega
          have hkb : ((Rn : Int) == 0) = true := by simpa using hkI
          have HSE := Lib.hid (hs.box #[.int .u8 d0, .int .u8 d1] 41).tail
          have HK0 := Lib.hid hk0
          clear hs hk0
          have HCC := Lib.hid (KCount HSE.out 1 rfl)
          go_wp2_with (first
            | (go_at_call 33; refine (HCC.out).mono ?_; rw [elems_white]; rintro e w9 ⟨rfl, hs⟩; have HCD := Lib.hid (KDrained hs 1 rfl); clear hs HCC HSE)
            | (go_at_call 41; refine (HCD.out).mono ?_; rintro e w10 ⟨bq, rfl, hb, hs⟩; obtain rfl : bq = true := hb.2 white_grey; have HCT := Lib.hid (KTrace HGR.out.heap HGR.out.size (C := Col.white) (fun x hx => by cases hx) hs 1 2 rfl rfl (by decide) 9 (by omega)); clear hs hb HCD)
            | (go_at_call 37; refine (HCT.out).mono ?_; rintro e w11 ⟨d9, C9, rfl, ht, hs⟩; obtain ⟨rfl, rfl⟩ := ht.none_ white_grey; have HS9 := Lib.hid hs; clear hs ht HCT))
          go_ret
          exact ⟨rfl, HS9.out.below⟩
        have hkz : ¬ (Rn : Int) = 0 := by omega
        have hkb : ((Rn : Int) == 0) = false := by simp; omega
        obtain ⟨ab, ao, hA0, hcell⟩ := HZ2.out.at_ hs.own hlt
        subst hA0
        have hc0 := hcell 0 _ rfl
        have hw0 := wf8 (HZ2.out.wf hlt 0 .u8 rfl)
        have hc1 := hcell 1 _ rfl
        have hw1 := wf8 (HZ2.out.wf hlt 1 .u8 rfl)
        simp at hc0 hc1
        obtain ⟨d0, h0⟩ : ∃ d, D2 k 0 = d := ⟨_, rfl⟩
        rw [h0] at hc0 hw0
        obtain ⟨d1, h1⟩ : ∃ d, D2 k 1 = d := ⟨_, rfl⟩
        rw [h1] at hc1 hw1
        clear hcell h0 h1
        obtain ⟨g, cap', hsl, _, _⟩ := hs.rowSome 3 rfl hkp
        simp only [Value.slice.injEq] at hsl
        obtain ⟨rfl, _, rfl⟩ := hsl
        obtain ⟨K1, um, ul⟩ : ∃ K1 : Nat, d0.tmod (Rn : Int) = (K1 : Int) ∧ K1 < Rn := by
          have h1 := Int.emod_nonneg d0 (show (Rn : Int) ≠ 0 by omega)
          have h2 := Int.emod_lt_of_pos d0 (show (0 : Int) < (Rn : Int) by omega)
          refine ⟨(d0 % (Rn : Int)).toNat, ?_, by omega⟩
          rw [Int.tmod_eq_emod_of_nonneg (by omega)]
          omega
        have uI : (K1 : Int) < (Rn : Int) := by omega
        have u0 : (0 : Int) ≤ (K1 : Int) := by omega
        obtain ⟨K2, vm, vl⟩ : ∃ K2 : Nat, d1.tmod (Rn : Int) = (K2 : Int) ∧ K2 < Rn := by
          have h1 := Int.emod_nonneg d1 (show (Rn : Int) ≠ 0 by omega)
          have h2 := Int.emod_lt_of_pos d1 (show (0 : Int) < (Rn : Int) by omega)
          refine ⟨(d1 % (Rn : Int)).toNat, ?_, by omega⟩
          rw [Int.tmod_eq_emod_of_nonneg (by omega)]
          omega
        have vI : (K2 : Int) < (Rn : Int) := by omega
        have v0 : (0 : Int) ≤ (K2 : Int) := by omega
        obtain ⟨rx, hx⟩ : ∃ x, rs[K1]? = some x := ⟨_, List.getElem?_eq_getElem (by rw [HRN.out]; exact ul)⟩
        obtain ⟨ry, hy⟩ : ∃ x, rs[K2]? = some x := ⟨_, List.getElem?_eq_getElem (by rw [HRN.out]; exact vl)⟩
        have hy2 := HGR.out.lt (List.mem_of_getElem? hy)
        have HX := Lib.hid hx
        have HY := Lib.hid hy
        obtain ⟨T5, hT5⟩ : ∃ T5, wr.heap.size = T5 := ⟨_, rfl⟩
        have hsb := hs.box #[.int .u8 d0, .int .u8 d1] 41
        rw [hT5] at hsb
        have HSB := Lib.hid hsb
        clear hs hsb hx hy
        go_wp2
        refine region_sep HSB.out (by kernel_rfl) (by kernel_rfl) ?_
        intro hne0
        have yz0 : ∀ x : SepW w (blkR T5 41 #[.int .u8 d0, .int .u8 d1] :: yuaR bb m :: markR m a 2049 (Col.white) :: arenaR a A :: rowR 36 1 (.slice (some ⟨g, 0, none⟩) Rn capl) Rn (nums rs) :: adjR Try.prog 36 36 b (ptsOf fs) :: blkR T 25 #[.slice A0 n0 c0, .slice A1 n1 c1] :: []), x.w'.cell? ⟨T5, 0, none⟩ = some (.int .u8 d0) := fun x => by
          have := (x.h.blk 0 rfl).cell 0
          simpa using this
        have yz1 : ∀ x : SepW w (blkR T5 41 #[.int .u8 d0, .int .u8 d1] :: yuaR bb m :: markR m a 2049 (Col.white) :: arenaR a A :: rowR 36 1 (.slice (some ⟨g, 0, none⟩) Rn capl) Rn (nums rs) :: adjR Try.prog 36 36 b (ptsOf fs) :: blkR T 25 #[.slice A0 n0 c0, .slice A1 n1 c1] :: []), x.w'.cell? ⟨T5, 1, none⟩ = some (.int .u8 d1) := fun x => by
          have := (x.h.blk 0 rfl).cell 1
          simpa using this
        have yx : ∀ x : SepW w (blkR T5 41 #[.int .u8 d0, .int .u8 d1] :: yuaR bb m :: markR m a 2049 (Col.white) :: arenaR a A :: rowR 36 1 (.slice (some ⟨g, 0, none⟩) Rn capl) Rn (nums rs) :: adjR Try.prog 36 36 b (ptsOf fs) :: blkR T 25 #[.slice A0 n0 c0, .slice A1 n1 c1] :: []), x.w'.cell? ⟨g, K1, none⟩ = some (.int .i64 (rx : Int)) := fun x => x.h.rowCell 4 rfl K1 _ (nums_get _ _ _ HX.out)
        have yy : ∀ x : SepW w (blkR T5 41 #[.int .u8 d0, .int .u8 d1] :: yuaR bb m :: markR m a 2049 (Col.white) :: arenaR a A :: rowR 36 1 (.slice (some ⟨g, 0, none⟩) Rn capl) Rn (nums rs) :: adjR Try.prog 36 36 b (ptsOf fs) :: blkR T 25 #[.slice A0 n0 c0, .slice A1 n1 c1] :: []), x.w'.cell? ⟨g, K2, none⟩ = some (.int .i64 (ry : Int)) := fun x => x.h.rowCell 4 rfl K2 _ (nums_get _ _ _ HY.out)
        repeat (go_big_quiet_step (fail))
        refine wpQuiet_nil ?_
        rintro wq ⟨⟨wqx, hs⟩, rfl⟩
        clear yz0 yz1 yx yy hne0
        have HCP := Lib.hid (YPre0 hs 1 2 rfl rfl (rx : Int) (by omega))
        clear hs
        go_wp2_with (first
          | (go_at_call 31; refine (HCP.out).mono ?_; rintro e w6 ⟨rfl, hs⟩; have z0 := (hs.blk 0 rfl).cell 0; simp only [List.getElem?_toArray, List.getElem?_cons_zero, List.getElem?_cons_succ] at z0; have HS6 := Lib.hid hs; clear hs HCP)
          | (go_at_call 32; refine (YPostNew HS6.out 1 2 rfl (by decide) rfl (rx : Int) ry _ false (by omega) hy2.2).mono ?_; rintro e w7 ⟨rfl, hs⟩; simp only [Bool.false_eq_true, if_false] at hs; have HC8 := Lib.hid (YPostNil hs 1 2 rfl (by decide) rfl (rx : Int) false true (by omega)); clear hs HS6 z0)
          | (go_at_call 32; refine (HC8.out).mono ?_; rintro e w8 ⟨rfl, hs⟩; have HS7 := Lib.hid hs.tail; clear hs HC8))
        go_roundw
        case rel => exact ⟨k + 1, by omega, by go_num, HS7.out⟩
        case measure => simp [intOf]; omega
      · obtain rfl : n2 = k := by omega
        have HSE := Lib.hid hs
        clear hs
        have HCC := Lib.hid (KCount HSE.out 1 rfl)
        go_wp2_with (first
          | (go_at_call 33; refine (HCC.out).mono ?_; rw [elems_white]; rintro e w9 ⟨rfl, hs⟩; have HCD := Lib.hid (KDrained hs 1 rfl); clear hs HCC HSE)
          | (go_at_call 41; refine (HCD.out).mono ?_; rintro e w10 ⟨bq, rfl, hb, hs⟩; obtain rfl : bq = true := hb.2 white_grey; have HCT := Lib.hid (KTrace HGR.out.heap HGR.out.size (C := Col.white) (fun x hx => by cases hx) hs 1 2 rfl rfl (by decide) 9 (by omega)); clear hs hb HCD)
          | (go_at_call 37; refine (HCT.out).mono ?_; rintro e w11 ⟨d9, C9, rfl, ht, hs⟩; obtain ⟨rfl, rfl⟩ := ht.none_ white_grey; have HS9 := Lib.hid hs; clear hs ht HCT))
        go_ret
        exact ⟨rfl, HS9.out.below⟩
  · by_cases hsm : n0 ≤ 40 ∧ n1 ≤ 120
    · have HSD := Lib.hid (show (decide (n0 ≤ 40) && decide (n1 ≤ 120)) = true by rw [decide_eq_true hsm.1, decide_eq_true hsm.2]; rfl)
      have hgt : (40 : Int) < (n2 : Int) := by omega
      clear hsm hsmall
      go_wp2_with (first
        | (go_at_call 29; refine (fit14 _).mono ?_; rintro e w1 ⟨rfl, hC⟩; have hs1 := HS0.out.same hC; have p0 := (hs1.blk 0 rfl).cell 0; have p1 := (hs1.blk 0 rfl).cell 1; simp only [List.getElem?_toArray, List.getElem?_cons_zero, List.getElem?_cons_succ] at p0 p1; have HS1 := Lib.hid hs1; clear hC hs1 HS0)
        | (go_at_call 17; refine (Small11 _ A0 n0 c0 A1 n1 c1).mono ?_; rw [HSD.out]; rintro e w2 ⟨rfl, hC⟩; have HS2 := Lib.hid (HS1.out.same hC); clear hC HS1))
      go_ret
      exact ⟨rfl, HS2.out.below⟩
    · have HSD := Lib.hid (show (decide (n0 ≤ 40) && decide (n1 ≤ 120)) = false by
        rw [Bool.and_eq_false_iff]
        by_cases h : n0 ≤ 40
        · exact .inr (decide_eq_false fun h2 => hsm ⟨h, h2⟩)
        · exact .inl (decide_eq_false h))
      clear hsm hsmall
      go_wp2_with (first
        | (go_at_call 29; refine (fit14 _).mono ?_; rintro e w1 ⟨rfl, hC⟩; have hs1 := HS0.out.same hC; have p0 := (hs1.blk 0 rfl).cell 0; have p1 := (hs1.blk 0 rfl).cell 1; simp only [List.getElem?_toArray, List.getElem?_cons_zero, List.getElem?_cons_succ] at p0 p1; have HS1 := Lib.hid hs1; clear hC hs1 HS0)
        | (go_at_call 17; refine (Small11 _ A0 n0 c0 A1 n1 c1).mono ?_; rw [HSD.out]; rintro e w2 ⟨rfl, hC⟩; have HS2 := Lib.hid (HS1.out.same hC); clear hC HS1))
      go_ret
      exact ⟨rfl, HS2.out.below⟩
end Go.Proofs.Ytacebfocfpbkdaa
