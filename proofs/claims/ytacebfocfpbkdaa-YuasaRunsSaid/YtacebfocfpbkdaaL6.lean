/-
  Parts of the proof, joined: Yua, Fit14, ColP, ByteBits, Bits8, YuasaRunsW. Conditions: as each part says.
-/
import Derived.Test.YtacebfocfpbkdaaL5
import Derived.Test.YtacebfocfpbkdaaL1
import Derived.Laws.BitsAllLaws

/-
  The barrier of layer 14: what it holds, and a contract for each method. Conditions: as the theorem says.
-/
namespace Go.Proofs.Ytacebfocfpbkdaa
set_option linter.unusedVariables false
set_option linter.unusedSimpArgs false
open Go.RowKit Go.Shelf

def yuaR (b m : Nat) : Res := blkR b 87 #[.func (.func 20) #[.pointer (some ⟨m, 0, none⟩)] #[]]
section
variable {w0 w : World} {L : List Res} {m a n : Nat} {C : Col}
theorem YNew (S : Sep w0 w L) (m : Nat) : Calls Try.prog 30 #[.pointer (some ⟨m, 0, none⟩)] w fun e w' => ∃ b, e = .returned (.pointer (some ⟨b, 0, none⟩)) ∧ Sep w0 w' (yuaR b m :: L) := by
  have HS := Lib.hid (S.box #[.func (.func 20) #[.pointer (some ⟨m, 0, none⟩)] #[]] 87)
  have hmf : ∀ (fn : Fn) (first cap : Array Value) (w : World), (Instr.makeFunc fn first cap).run Try.prog w = .ok (.func fn first cap) w := fun _ _ _ _ => rfl
  clear S
  go_enter Try.func30, Try.ntmps30
  go_wp2
  go_ret
  exact ⟨w.heap.size, rfl, HS.out⟩
theorem YRemark (w : World) (b : Nat) : Calls Try.prog 34 #[.pointer (some ⟨b, 0, none⟩)] w fun e w' => e = .returned (.tuple #[]) ∧ w = w' := by
  go_enter Try.func34, Try.ntmps34
  go_wp2
  go_end0
  exact ⟨rfl, rfl⟩
theorem YReset (w : World) (b : Nat) : Calls Try.prog 35 #[.pointer (some ⟨b, 0, none⟩)] w fun e w' => e = .returned (.tuple #[]) ∧ w = w' := by
  go_enter Try.func35, Try.ntmps35
  go_wp2
  go_end0
  exact ⟨rfl, rfl⟩
theorem YRescans (w : World) (b : Nat) : Calls Try.prog 59 #[.pointer (some ⟨b, 0, none⟩)] w fun e w' => e = .returned (.bool false) ∧ w = w' := by
  go_enter Try.func59, Try.ntmps59
  go_wp2
  go_ret
  exact ⟨rfl, rfl⟩
theorem YPre {b : Nat} (S : Sep w0 w L) (i j : Nat) (hi : L[i]? = some (yuaR b m)) (hj : L[j]? = some (markR m a n C)) (src : Int) (old : Nat) (ho : old < n) :
    Calls Try.prog 31 #[.pointer (some ⟨b, 0, none⟩), .int .i64 src, .int .i64 (old : Int)] w fun e w' => e = .returned (.tuple #[]) ∧ Sep w0 w' (L.set j (markR m a n (C.shade0 old))) := by
  have c0 := (S.blk i (by simpa [yuaR] using hi)).cell 0
  simp only [List.getElem?_toArray, List.getElem?_cons_zero, List.getElem?_cons_succ] at c0
  have HC := Lib.hid (KShade0 S j hj old ho)
  clear S hi hj
  go_enter Try.func31, Try.ntmps31
  go_wp2_with (go_at_call 20; refine HC.out.mono ?_; rintro e w7 ⟨rfl, hs⟩; have HS := Lib.hid hs; clear hs HC)
  go_end0
  exact ⟨rfl, HS.out⟩
set_option maxRecDepth 100000 in
set_option maxHeartbeats 2000000 in
theorem YPost {b : Nat} (S : Sep w0 w L) (i j : Nat) (hi : L[i]? = some (yuaR b m)) (hij : i ≠ j) (hj : L[j]? = some (markR m a n C)) (src : Int) (old y : Nat) (black early : Bool) (ho : old < n) (hy : y < n) :
    Calls Try.prog 32 #[.pointer (some ⟨b, 0, none⟩), (.agg #[.int .i64 src, .int .i64 (old : Int), .int .i64 (y : Int), .bool black, .bool early])] w fun e w' => e = .returned (.tuple #[]) ∧ Sep w0 w' (L.set j (markR m a n (if early = true then (C.shade0 old).shade0 y else C.shade0 old))) := by
  obtain ⟨T, hT⟩ : ∃ T, w.heap.size = T := ⟨_, rfl⟩
  have hb := S.box #[.int .i64 src, .int .i64 (old : Int), .int .i64 (y : Int), .bool black, .bool early] 45
  rw [hT] at hb
  have HB := Lib.hid hb
  have HI1 := Lib.hid (show (blkR T 45 #[.int .i64 src, .int .i64 (old : Int), .int .i64 (y : Int), .bool black, .bool early] :: L)[i + 1]? = some (yuaR b m) by simpa using hi)
  have HJ1 := Lib.hid (show (blkR T 45 #[.int .i64 src, .int .i64 (old : Int), .int .i64 (y : Int), .bool black, .bool early] :: L)[j + 1]? = some (markR m a n C) by simpa using hj)
  have HI2 := Lib.hid (show ((blkR T 45 #[.int .i64 src, .int .i64 (old : Int), .int .i64 (y : Int), .bool black, .bool early] :: L).set (j + 1) (markR m a n (C.shade0 old)))[i + 1]? = some (yuaR b m) by rw [List.getElem?_set_ne (by omega)]; simpa using hi)
  have HJ2 := Lib.hid (show ((blkR T 45 #[.int .i64 src, .int .i64 (old : Int), .int .i64 (y : Int), .bool black, .bool early] :: L).set (j + 1) (markR m a n (C.shade0 old)))[j + 1]? = some (markR m a n (C.shade0 old)) by
    have := (List.getElem?_eq_some_iff.1 hj).1
    simp [this])
  have hro : Try.prog.follows .mixedOrders = true := by kernel_rfl
  clear S hi hj hb hij
  go_enter Try.func32, Try.ntmps32
  go_wp2
  obtain ⟨wd1, hwd1⟩ : ∃ wd, (w.alloc (.cells #[.int .i64 src, .int .i64 (old : Int), .int .i64 (y : Int), .bool black, .bool early] 45)).drew = wd := ⟨_, rfl⟩
  have hd := HB.out.drew
  rw [hwd1] at hd
  have x0 := (hd.blk (i + 1) (by have := HI1.out; unfold yuaR at this; exact this)).cell 0
  have x1 := (hd.blk 0 rfl).cell 1
  simp only [List.getElem?_toArray, List.getElem?_cons_zero, List.getElem?_cons_succ] at x0 x1
  try simp only [hT]
  have HS2 := Lib.hid hd
  clear hd HB
  refine wp_region_still_tail 6 (by kernel_rfl) (by kernel_rfl) ?_
  change wpStill _ _ (World.drew _) (fun a' => wpList _ _ _ _ a' (World.drew _)) _ _
  rw [hwd1]
  clear hwd1
  simp only [List.take_succ_cons, List.take_zero, List.drop_succ_cons, List.drop_zero]
  repeat still_step
  refine wpStill_nil ?_
  have HC := Lib.hid (KShade0 HS2.out (j + 1) HJ1.out old ho)
  clear HS2
  cases early
  · go_wp2_with (go_at_call 20; refine (HC.out).mono ?_; rintro e w7 ⟨rfl, hs⟩; clear x0 x1; have y1 := (hs.blk 0 rfl).cell 4; simp only [List.getElem?_toArray, List.getElem?_cons_zero, List.getElem?_cons_succ] at y1; have HS3 := Lib.hid hs; clear hs HC)
    go_end0
    exact ⟨rfl, HS3.out.tail⟩
  · go_wp2_with (go_at_call 20; refine (HC.out).mono ?_; rintro e w7 ⟨rfl, hs⟩; clear x0 x1; have y1 := (hs.blk 0 rfl).cell 4; simp only [List.getElem?_toArray, List.getElem?_cons_zero, List.getElem?_cons_succ] at y1; have HS3 := Lib.hid hs; clear hs HC)
    obtain ⟨wd2, hwd2⟩ : ∃ wd, (w7).drew = wd := ⟨_, rfl⟩
    have hd := HS3.out.drew
    rw [hwd2] at hd
    have x0 := (hd.blk (i + 1) (by have := HI2.out; unfold yuaR at this; exact this)).cell 0
    have x1 := (hd.blk 0 rfl).cell 2
    simp only [List.getElem?_toArray, List.getElem?_cons_zero, List.getElem?_cons_succ] at x0 x1
    have HS4 := Lib.hid hd
    clear hd HS3
    refine wp_region_still_tail 6 (by kernel_rfl) (by kernel_rfl) ?_
    change wpStill _ _ (World.drew _) (fun a' => wpList _ _ _ _ a' (World.drew _)) _ _
    rw [hwd2]
    clear hwd2
    simp only [List.take_succ_cons, List.take_zero, List.drop_succ_cons, List.drop_zero]
    repeat still_step
    refine wpStill_nil ?_
    have HC := Lib.hid (KShade0 HS4.out (j + 1) HJ2.out y hy)
    clear HS4
    go_wp2_with (go_at_call 20; refine (HC.out).mono ?_; rintro e w8 ⟨rfl, hs⟩; clear x0 x1; have HS5 := Lib.hid hs; clear hs HC)
    go_end0
    refine ⟨rfl, ?_⟩
    have h5 := HS5.out
    rw [List.set_set] at h5
    exact h5.tail
theorem YPre0 {b : Nat} (S : Sep w0 w L) (i j : Nat) (hi : L[i]? = some (yuaR b m)) (hj : L[j]? = some (markR m a n C)) (src : Int) (hn : 0 < n) :
    Calls Try.prog 31 #[.pointer (some ⟨b, 0, none⟩), .int .i64 src, .int .i64 0] w fun e w' => e = .returned (.tuple #[]) ∧ Sep w0 w' L := by
  have h := YPre S i j hi hj src 0 hn
  rw [shade0_zero, set_self hj] at h
  exact h
/-- Nothing was there. -/
theorem YPostNew {b : Nat} (S : Sep w0 w L) (i j : Nat) (hi : L[i]? = some (yuaR b m)) (hij : i ≠ j) (hj : L[j]? = some (markR m a n C)) (src : Int) (y : Nat) (black early : Bool) (hn : 0 < n) (hy : y < n) :
    Calls Try.prog 32 #[.pointer (some ⟨b, 0, none⟩), .agg #[.int .i64 src, .int .i64 0, .int .i64 (y : Int), .bool black, .bool early]] w fun e w' => e = .returned (.tuple #[]) ∧ Sep w0 w' (L.set j (markR m a n (if early = true then C.shade0 y else C))) := by
  have h := YPost S i j hi hij hj src 0 y black early hn hy
  rw [shade0_zero] at h
  exact h
/-- Nothing at all. -/
theorem YPostNil {b : Nat} (S : Sep w0 w L) (i j : Nat) (hi : L[i]? = some (yuaR b m)) (hij : i ≠ j) (hj : L[j]? = some (markR m a n C)) (src : Int) (black early : Bool) (hn : 0 < n) :
    Calls Try.prog 32 #[.pointer (some ⟨b, 0, none⟩), .agg #[.int .i64 src, .int .i64 0, .int .i64 0, .bool black, .bool early]] w fun e w' => e = .returned (.tuple #[]) ∧ Sep w0 w' L := by
  have h := YPostNew S i j hi hij hj src 0 black early hn hn
  rw [shade0_zero, ite_self, set_self hj] at h
  exact h
end
end Go.Proofs.Ytacebfocfpbkdaa

/-
  fit of layer 14. Conditions: as the theorem says.
-/
namespace Go.Proofs.Ytacebfocfpbkdaa
set_option linter.unusedVariables false
set_option linter.unusedSimpArgs false
open Go.RowKit Go.Shelf

set_option maxRecDepth 100000 in
set_option maxHeartbeats 4000000 in
theorem fit14 (w : World) : Calls Try.prog 29 #[] w fun e w' => e = .returned (.bool true) ∧ Chg [] w w' := by
  obtain ⟨W, hW⟩ : ∃ W, w.alloc (.cells #[.int .u8 2, .int .u8 2, .int .u8 2] 5) = W := ⟨_, rfl⟩
  have hz := twos w 3 [.int .u8 2, .int .u8 2, .int .u8 2] rfl
  simp only [List.toArray] at hz
  have hch := (Chg.refl [] w).alloc (.cells #[.int .u8 2, .int .u8 2, .int .u8 2] 5)
  rw [hW] at hch
  have hz' : ArgI W (some ⟨w.heap.size, 0, none⟩) 3 [.u8] (fun _ _ => 2) := by rw [← hW]; exact hz
  have HZ := Lib.hid hz'
  have HCH := Lib.hid hch
  have HMD := Lib.hid (Made11 (some ⟨w.heap.size, 0, none⟩) 3 3 (fun _ _ => 2) none 0 0 (fun _ _ => 0) hz' (argI_none W _) (by omega) (by omega) (Sep.start W))
  have hro : Try.prog.follows .mixedOrders = true := by kernel_rfl
  clear hz hz' hch
  go_enter Try.func29, Try.ntmps29
  go_wp2_with (first
    | (go_at_call 18; refine (HMD.out).mono ?_; rintro e w3 ⟨a, b, v, A, rs, fs, rfl, hgr, hlen, hs⟩; obtain ⟨x, y, z, rfl⟩ : ∃ x y z, rs = [x, y, z] := (by match rs, hlen with | [x, y, z], _ => exact ⟨x, y, z, rfl⟩); have HGR := Lib.hid hgr; obtain ⟨g, capl, hv, _, _⟩ := hs.rowSome 1 rfl (by simp); rw [hv] at hs ⊢; have HS3 := Lib.hid hs; clear hs hgr hlen hv HMD)
    | (go_at_call 19; refine (KNew HS3.out 0 rfl HGR.out.size (by omega) 4 (by omega)).mono ?_; rintro e w4 ⟨m, rfl, hs⟩; have HC := Lib.hid (YNew hs m); clear hs HS3)
    | (go_at_call 30; refine (HC.out).mono ?_; rintro e w5 ⟨bb, rfl, hs⟩; have HS5 := Lib.hid (show Sep W w5 (yuaR bb m :: markR m a 2049 (Col.white) :: arenaR a A :: rowR 36 1 (.slice (some ⟨g, 0, none⟩) 3 capl) 3 (nums [x, y, z]) :: adjR Try.prog 36 36 b (ptsOf fs) :: []) from hs); clear hs HC))
  have HXL := Lib.hid (HGR.out.lt (x := x) (by simp))
  have HYL := Lib.hid (HGR.out.lt (x := y) (by simp))
  have HZL := Lib.hid (HGR.out.lt (x := z) (by simp))
  have HND := Lib.hid (show y ≠ x ∧ z ≠ x ∧ z ≠ y from by
    have := HGR.out.nodup
    simp only [List.nodup_cons, List.mem_cons, List.mem_nil_iff, or_false, not_or] at this
    exact ⟨fun e => this.1.1 e.symm, fun e => this.1.2 e.symm, fun e => this.2.1 e.symm⟩)
  obtain ⟨wd1, hwd1⟩ : ∃ wd, (w5).drew = wd := ⟨_, rfl⟩
  have hd := HS5.out.drew
  rw [hwd1] at hd
  have x0 := hd.rowCell 3 rfl 0 _ (nums_get [x, y, z] 0 x rfl); have x1 := hd.rowCell 3 rfl 1 _ (nums_get [x, y, z] 1 y rfl); have x2 := hd.rowCell 3 rfl 2 _ (nums_get [x, y, z] 2 z rfl)
  have HS6 := Lib.hid hd
  clear hd HS5
  refine wp_region_still_tail 7 (by kernel_rfl) (by kernel_rfl) ?_
  change wpStill _ _ (World.drew _) (fun a' => wpList _ _ _ _ a' (World.drew _)) _ _
  rw [hwd1]
  clear hwd1
  simp only [List.take_succ_cons, List.take_zero, List.drop_succ_cons, List.drop_zero]
  repeat still_step
  refine wpStill_nil ?_
  have HCP := Lib.hid (YPre HS6.out 0 1 rfl rfl (x : Int) y HYL.out.2)
  clear x0 x1 x2
  go_wp2_with (go_at_call 31; refine (HCP.out).mono ?_; rintro e w6 ⟨rfl, hs⟩; have HS7 := Lib.hid hs; clear hs HCP HS6)
  have HS7' := HS7
  obtain ⟨wd2, hwd2⟩ : ∃ wd, (w6).drew = wd := ⟨_, rfl⟩
  have hd := HS7.out.drew
  rw [hwd2] at hd
  have x0 := hd.rowCell 3 rfl 0 _ (nums_get [x, y, z] 0 x rfl); have x1 := hd.rowCell 3 rfl 1 _ (nums_get [x, y, z] 1 y rfl); have x2 := hd.rowCell 3 rfl 2 _ (nums_get [x, y, z] 2 z rfl)
  have HS8 := Lib.hid hd
  clear hd HS7
  refine wp_region_still_tail 11 (by kernel_rfl) (by kernel_rfl) ?_
  change wpStill _ _ (World.drew _) (fun a' => wpList _ _ _ _ a' (World.drew _)) _ _
  rw [hwd2]
  clear hwd2
  simp only [List.take_succ_cons, List.take_zero, List.drop_succ_cons, List.drop_zero]
  repeat still_step
  refine wpStill_nil ?_
  have HCQ := Lib.hid (YPost HS8.out 0 1 rfl (by decide) rfl (x : Int) y z false false HYL.out.2 HZL.out.2)
  clear x0 x1 x2 HS7'
  go_wp2_with (first
    | (go_at_call 32; refine (HCQ.out).mono ?_; rintro e w7 ⟨rfl, hs⟩; simp only [Bool.false_eq_true, if_false] at hs; have x0 := hs.rowCell 3 rfl 0 _ (nums_get [x, y, z] 0 x rfl); have x1 := hs.rowCell 3 rfl 1 _ (nums_get [x, y, z] 1 y rfl); have x2 := hs.rowCell 3 rfl 2 _ (nums_get [x, y, z] 2 z rfl); have HS9 := Lib.hid hs; clear hs HCQ HS8)
    | (go_at_call 59; refine (YRescans _ bb).mono ?_; rintro e w8 ⟨rfl, rfl⟩; have HM1 := Lib.hid (KMarked HS9.out 1 rfl y HYL.out.2))
    | (go_at_call 27; refine (HM1.out).mono ?_; rw [show ((Col.white.shade0 y).shade0 y).mz y = true by simp [shade0_mz, Nat.pos_iff_ne_zero.1 HYL.out.1]]; rintro e w9 ⟨rfl, hs⟩; have x0 := hs.rowCell 3 rfl 0 _ (nums_get [x, y, z] 0 x rfl); have x1 := hs.rowCell 3 rfl 1 _ (nums_get [x, y, z] 1 y rfl); have x2 := hs.rowCell 3 rfl 2 _ (nums_get [x, y, z] 2 z rfl); have HM2 := Lib.hid (KMarked hs 1 rfl x HXL.out.2); clear hs HM1)
    | (go_at_call 27; refine (HM2.out).mono ?_; rw [show ((Col.white.shade0 y).shade0 y).mz x = false by simp [shade0_mz, Col.white, HND.out.1.symm]]; rintro e w10 ⟨rfl, hs⟩; have x0 := hs.rowCell 3 rfl 0 _ (nums_get [x, y, z] 0 x rfl); have x1 := hs.rowCell 3 rfl 1 _ (nums_get [x, y, z] 1 y rfl); have x2 := hs.rowCell 3 rfl 2 _ (nums_get [x, y, z] 2 z rfl); have HM3 := Lib.hid (KMarked hs 1 rfl z HZL.out.2); clear hs HM2)
    | (go_at_call 27; refine (HM3.out).mono ?_; rw [show ((Col.white.shade0 y).shade0 y).mz z = false by simp [shade0_mz, Col.white, HND.out.2.2]]; rintro e w11 ⟨rfl, hs⟩; have HS10 := Lib.hid hs; clear hs HM3))
  go_ret
  exact ⟨rfl, HCH.out.trans HS10.out.chg (by simp)⟩
end Go.Proofs.Ytacebfocfpbkdaa

/-
  Colours as numbers, and a map that has them. Conditions: as each theorem says; no walk.
-/
namespace Go.Proofs.Ytacebfocfpbkdaa
set_option linter.unusedVariables false
set_option linter.unusedSimpArgs false
open Go.RowKit Go.Shelf

/-- 0: white, 1: grey, 2: black. -/
def colN (C : Col) (x : Nat) : Nat := if C.sc x = true then 2 else if C.mz x = true then 1 else 0
/-- The map reads as the colours do. -/
def ColM (M : Int → Option Int) (C : Col) : Prop := ∀ x : Nat, (M (x : Int)).getD 0 = (colN C x : Int)

section
variable {M : Int → Option Int} {C C' : Col} {x y : Nat}
theorem colN_le (C : Col) (x : Nat) : colN C x ≤ 2 := by
  unfold colN
  split
  · omega
  · split <;> omega
theorem colN_white (x : Nat) : colN Col.white x = 0 := rfl
theorem colM_none : ColM (fun _ => none) Col.white := fun _ => rfl
theorem ColM.upd (h : ColM M C) {c : Int} (hx : (colN C' x : Int) = c) (ho : ∀ y, y ≠ x → colN C' y = colN C y) : ColM (updM M (x : Int) (some c)) C' := by
  intro y
  unfold updM
  by_cases e : y = x
  · subst e
    rw [if_pos rfl, ← hx]
    rfl
  · rw [if_neg (by omega), h y, ho y e]
theorem colN_shade_self (C : Col) (x : Nat) : colN (C.shade x) x = if C.sc x = true then 2 else 1 := by simp [colN, Col.shade]
theorem colN_shade_max (C : Col) (x : Nat) : colN (C.shade x) x = max (colN C x) 1 := by
  rw [colN_shade_self]
  unfold colN
  cases C.sc x <;> cases C.mz x <;> simp
theorem colN_shade_other (C : Col) (h : y ≠ x) : colN (C.shade x) y = colN C y := by simp [colN, Col.shade, h]
theorem colN_black_self (C : Col) (x : Nat) : colN (C.black x) x = 2 := by simp [colN, Col.black]
theorem colN_black_other (C : Col) (h : y ≠ x) : colN (C.black x) y = colN C y := by simp [colN, Col.black, h]
theorem colN_forget_self (C : Col) (x : Nat) : colN (C.forget x) x = 0 := by simp [colN, Col.forget]
theorem colN_forget_other (C : Col) (h : y ≠ x) : colN (C.forget x) y = colN C y := by simp [colN, Col.forget, h]
theorem colN_zero : colN C x = 0 ↔ C.sc x = false ∧ C.mz x = false := by
  unfold colN
  cases C.sc x <;> cases C.mz x <;> simp
theorem colN_two : colN C x = 2 ↔ C.sc x = true := by
  unfold colN
  cases C.sc x <;> cases C.mz x <;> simp
theorem colN_mz (hs : C.sc x = true → C.mz x = true) : C.mz x = decide (0 < colN C x) := by
  unfold colN
  cases e : C.sc x <;> cases e2 : C.mz x <;> simp
  rw [hs e] at e2
  cases e2
theorem colN_sc : C.sc x = decide (colN C x = 2) := by
  unfold colN
  cases e : C.sc x <;> cases e2 : C.mz x <;> simp
theorem sub_shade (hs : ∀ x, C.sc x = true → C.mz x = true) (r : Nat) : ∀ x, (C.shade r).sc x = true → (C.shade r).mz x = true := by
  intro x hx
  show (C.mz x || _) = true
  rw [hs x hx]
  rfl
theorem sub_black (hs : ∀ x, C.sc x = true → C.mz x = true) (r : Nat) : ∀ x, (C.black r).sc x = true → (C.black r).mz x = true := by
  intro x hx
  have hx' : (C.sc x || decide (x = r)) = true := hx
  show (C.mz x || decide (x = r)) = true
  simp only [Bool.or_eq_true, decide_eq_true_eq] at hx' ⊢
  rcases hx' with h | h
  · exact .inl (hs x h)
  · exact .inr h
theorem sub_forget (hs : ∀ x, C.sc x = true → C.mz x = true) (r : Nat) : ∀ x, (C.forget r).sc x = true → (C.forget r).mz x = true := by
  intro x hx
  have hx' : (C.sc x && !decide (x = r)) = true := hx
  show (C.mz x && !decide (x = r)) = true
  simp only [Bool.and_eq_true] at hx' ⊢
  exact ⟨hs x hx'.1, hx'.2⟩
end
end Go.Proofs.Ytacebfocfpbkdaa

/-
  The bits of a byte, as the walk spells them. Conditions: numbers between 0 and 255.
-/
namespace Go.Proofs.Ytacebfocfpbkdaa
open Go.RowKit

/-- Bit t of x. -/
def bitZ (x t : Int) : Bool := bits .and .u8 (x / 2 ^ t.toNat) 1 == 1

theorem bit_nat (x t : Nat) (hx : x < 256) : bitZ (x : Int) (t : Int) = x.testBit t := by
  have hd : x / 2 ^ t < 256 := Nat.lt_of_le_of_lt (Nat.div_le_self _ _) hx
  unfold bitZ
  rw [Int.toNat_natCast]
  have h1 : ((x : Int) / 2 ^ t) = ((x / 2 ^ t : Nat) : Int) := by simp
  rw [h1]
  have h2 := u8_and_nat (x / 2 ^ t) 1 hd (by omega)
  rw [show ((1 : Nat) : Int) = 1 from rfl] at h2
  rw [h2, Nat.and_one_is_mod, Nat.testBit_eq_decide_div_mod_eq]
  rw [Bool.eq_iff_iff]
  simp
  omega

theorem byte_nat {x : Int} (h0 : 0 ≤ x) (h1 : x ≤ 255) : ∃ n : Nat, x = n ∧ n < 256 := ⟨x.toNat, by omega, by omega⟩

theorem bit_and {x y t : Int} (hx0 : 0 ≤ x) (hx1 : x ≤ 255) (hy0 : 0 ≤ y) (hy1 : y ≤ 255) (ht : 0 ≤ t) : bitZ (bits .and .u8 x y) t = (bitZ x t && bitZ y t) := by
  obtain ⟨a, rfl, ha⟩ := byte_nat hx0 hx1
  obtain ⟨b, rfl, hb⟩ := byte_nat hy0 hy1
  obtain ⟨k, rfl⟩ := Int.eq_ofNat_of_zero_le ht
  rw [u8_and_nat a b ha hb, bit_nat _ _ (Nat.lt_of_le_of_lt Nat.and_le_left ha), bit_nat _ _ ha, bit_nat _ _ hb, Nat.testBit_and]

theorem or_lt {a b : Nat} (ha : a < 256) (hb : b < 256) : a ||| b < 256 := Nat.or_lt_two_pow (n := 8) ha hb

theorem bit_or {x y t : Int} (hx0 : 0 ≤ x) (hx1 : x ≤ 255) (hy0 : 0 ≤ y) (hy1 : y ≤ 255) (ht : 0 ≤ t) : bitZ (bits .or .u8 x y) t = (bitZ x t || bitZ y t) := by
  obtain ⟨a, rfl, ha⟩ := byte_nat hx0 hx1
  obtain ⟨b, rfl, hb⟩ := byte_nat hy0 hy1
  obtain ⟨k, rfl⟩ := Int.eq_ofNat_of_zero_le ht
  rw [u8_or_nat a b ha hb, bit_nat _ _ (or_lt ha hb), bit_nat _ _ ha, bit_nat _ _ hb, Nat.testBit_or]

theorem and_byte {x y : Int} (hx0 : 0 ≤ x) (hx1 : x ≤ 255) (hy0 : 0 ≤ y) (hy1 : y ≤ 255) : 0 ≤ bits .and .u8 x y ∧ bits .and .u8 x y ≤ 255 := by
  obtain ⟨a, rfl, ha⟩ := byte_nat hx0 hx1
  obtain ⟨b, rfl, hb⟩ := byte_nat hy0 hy1
  rw [u8_and_nat a b ha hb]
  have : a &&& b ≤ a := Nat.and_le_left
  omega

theorem or_byte {x y : Int} (hx0 : 0 ≤ x) (hx1 : x ≤ 255) (hy0 : 0 ≤ y) (hy1 : y ≤ 255) : 0 ≤ bits .or .u8 x y ∧ bits .or .u8 x y ≤ 255 := by
  obtain ⟨a, rfl, ha⟩ := byte_nat hx0 hx1
  obtain ⟨b, rfl, hb⟩ := byte_nat hy0 hy1
  rw [u8_or_nat a b ha hb]
  have := or_lt ha hb
  omega

theorem bit_0 (x : Int) : (bits .and .u8 x 1 == 1) = bitZ x 0 := by unfold bitZ; simp
theorem bit_1 (x : Int) : (bits .and .u8 (x / 2) 1 == 1) = bitZ x 1 := rfl
theorem bit_2 (x : Int) : (bits .and .u8 (x / 4) 1 == 1) = bitZ x 2 := rfl
theorem bit_3 (x : Int) : (bits .and .u8 (x / 8) 1 == 1) = bitZ x 3 := rfl

theorem bit_zero (x : Int) (t : Nat) (h0 : 0 ≤ x) (h1 : x ≤ 255) : (bits .and .u8 (x / 2 ^ t) 1 == 0) = !bitZ x t := by
  obtain ⟨a, rfl, ha⟩ := byte_nat h0 h1
  have hd : a / 2 ^ t < 256 := Nat.lt_of_le_of_lt (Nat.div_le_self _ _) ha
  have e : ((a : Int) / 2 ^ t) = ((a / 2 ^ t : Nat) : Int) := by simp
  have h2 := u8_and_nat (a / 2 ^ t) 1 hd (by omega)
  rw [show ((1 : Nat) : Int) = 1 from rfl] at h2
  unfold bitZ
  rw [Int.toNat_natCast, e, h2, Nat.and_one_is_mod]
  rw [Bool.eq_iff_iff]
  simp
  omega
theorem bitz_0 (x : Int) (h0 : 0 ≤ x) (h1 : x ≤ 255) : (bits .and .u8 x 1 == 0) = !bitZ x 0 := by simpa using bit_zero x 0 h0 h1
theorem bitz_1 (x : Int) (h0 : 0 ≤ x) (h1 : x ≤ 255) : (bits .and .u8 (x / 2) 1 == 0) = !bitZ x 1 := bit_zero x 1 h0 h1
theorem bitz_2 (x : Int) (h0 : 0 ≤ x) (h1 : x ≤ 255) : (bits .and .u8 (x / 4) 1 == 0) = !bitZ x 2 := bit_zero x 2 h0 h1
theorem bitz_3 (x : Int) (h0 : 0 ≤ x) (h1 : x ≤ 255) : (bits .and .u8 (x / 8) 1 == 0) = !bitZ x 3 := bit_zero x 3 h0 h1

end Go.Proofs.Ytacebfocfpbkdaa

/-
  Masks of a byte. Conditions: numbers between 0 and 255.
-/
namespace Go.Proofs.Ytacebfocfpbkdaa
set_option linter.unusedVariables false
open Go.RowKit

theorem and8_of {x : Int} (h : 0 ≤ x ∧ x ≤ 255) (m : Nat) (hm : m < 256) (f : Nat → Nat) (hf : ∀ n : Nat, n < 256 → n &&& m = f n) : bits .and .u8 x (m : Int) = (f x.toNat : Int) := by
  obtain ⟨n, rfl, hn⟩ := byte_nat h.1 h.2
  rw [u8_and_nat n m hn hm, hf n hn]
  simp
set_option maxRecDepth 10000 in
theorem and8_1 {x : Int} (h : 0 ≤ x ∧ x ≤ 255) : bits .and .u8 x 1 = x % 2 := by
  have := and8_of h 1 (by decide) (fun n => n % 2) (fun n _ => Nat.and_two_pow_sub_one_eq_mod n 1)
  rw [show ((1 : Nat) : Int) = 1 from rfl] at this
  rw [this]; omega
theorem and8_3 {x : Int} (h : 0 ≤ x ∧ x ≤ 255) : bits .and .u8 x 3 = x % 4 := by
  have := and8_of h 3 (by decide) (fun n => n % 4) (fun n _ => Nat.and_two_pow_sub_one_eq_mod n 2)
  rw [show ((3 : Nat) : Int) = 3 from rfl] at this
  rw [this]; omega
theorem and8_7 {x : Int} (h : 0 ≤ x ∧ x ≤ 255) : bits .and .u8 x 7 = x % 8 := by
  have := and8_of h 7 (by decide) (fun n => n % 8) (fun n _ => Nat.and_two_pow_sub_one_eq_mod n 3)
  rw [show ((7 : Nat) : Int) = 7 from rfl] at this
  rw [this]; omega
theorem and8_15 {x : Int} (h : 0 ≤ x ∧ x ≤ 255) : bits .and .u8 x 15 = x % 16 := by
  have := and8_of h 15 (by decide) (fun n => n % 16) (fun n _ => Nat.and_two_pow_sub_one_eq_mod n 4)
  rw [show ((15 : Nat) : Int) = 15 from rfl] at this
  rw [this]; omega
theorem all256 {p : Nat → Prop} [DecidablePred p] (h : (List.range 256).all (fun n => decide (p n)) = true) : ∀ n : Nat, n < 256 → p n := by
  intro n hn
  have := List.all_eq_true.1 h n (List.mem_range.2 hn)
  exact of_decide_eq_true this
theorem and8_4 {x : Int} (h : 0 ≤ x ∧ x ≤ 255) : bits .and .u8 x 4 = 4 * (x / 4 % 2) := by
  have := and8_of h 4 (by decide) (fun n => 4 * (n / 4 % 2)) (all256 (by decide +kernel))
  rw [show ((4 : Nat) : Int) = 4 from rfl] at this
  rw [this]; omega
theorem and8_8 {x : Int} (h : 0 ≤ x ∧ x ≤ 255) : bits .and .u8 x 8 = 8 * (x / 8 % 2) := by
  have := and8_of h 8 (by decide) (fun n => 8 * (n / 8 % 2)) (all256 (by decide +kernel))
  rw [show ((8 : Nat) : Int) = 8 from rfl] at this
  rw [this]; omega
theorem and8_16 {x : Int} (h : 0 ≤ x ∧ x ≤ 255) : bits .and .u8 x 16 = 16 * (x / 16 % 2) := by
  have := and8_of h 16 (by decide) (fun n => 16 * (n / 16 % 2)) (all256 (by decide +kernel))
  rw [show ((16 : Nat) : Int) = 16 from rfl] at this
  rw [this]; omega
theorem and8_12 {x : Int} (h : 0 ≤ x ∧ x ≤ 255) : bits .and .u8 x 12 = 4 * (x / 4 % 4) := by
  have := and8_of h 12 (by decide) (fun n => 4 * (n / 4 % 4)) (all256 (by decide +kernel))
  rw [show ((12 : Nat) : Int) = 12 from rfl] at this
  rw [this]; omega
theorem and8_24 {x : Int} (h : 0 ≤ x ∧ x ≤ 255) : bits .and .u8 x 24 = 8 * (x / 8 % 4) := by
  have := and8_of h 24 (by decide) (fun n => 8 * (n / 8 % 4)) (all256 (by decide +kernel))
  rw [show ((24 : Nat) : Int) = 24 from rfl] at this
  rw [this]; omega
end Go.Proofs.Ytacebfocfpbkdaa

/-
  The walk of YuasaRuns. Conditions: as the theorem says.
-/
namespace Go.Proofs.Ytacebfocfpbkdaa
set_option linter.unusedVariables false
set_option linter.unusedSimpArgs false
open Go.RowKit Go.Shelf

theorem colN_shade0_self {C : Col} (hs : ∀ x, C.sc x = false) {y : Nat} (h : 0 < y) : colN (C.shade0 y) y = 1 := by rw [shade0_pos h, colN_shade_self, hs y]; rfl
theorem colN_shade0_other (C : Col) {x y : Nat} (h : y ≠ x) : colN (C.shade0 x) y = colN C y := by
  unfold Col.shade0
  split
  · rfl
  · exact colN_shade_other C h
theorem sc_shade0 {C : Col} (hs : ∀ x, C.sc x = false) (y : Nat) : ∀ x, (C.shade0 y).sc x = false := fun x => by rw [shade0_sc]; exact hs x
set_option maxRecDepth 100000 in
set_option maxHeartbeats 16000000 in
theorem yuasaRuns_walk (A0 : Option Addr) (n0 c0 : Nat) (D0 : Nat → Nat → Int) (A1 : Option Addr) (n1 c1 : Nat) (D1 : Nat → Nat → Int) (A2 : Option Addr) (n2 c2 : Nat) (D2 : Nat → Nat → Int) (w : World) (hz0 : ArgI w A0 n0 [.u8] D0) (hm0 : n0 ≤ maxLen) (hz1 : ArgI w A1 n1 [.u16, .u16, .u16] D1) (hm1 : n1 ≤ maxLen) (hz2 : ArgI w A2 n2 [.u8, .u8, .u8, .u8] D2) (hm2 : n2 ≤ maxLen) :
    Calls Try.prog 4 #[.agg #[.slice A0 n0 c0, .slice A1 n1 c1], .slice A2 n2 c2] w fun e w' => e = .returned (.bool true) ∧ Below w.heap.size w w' := by
  have HZ0 := Lib.hid hz0
  have HZ1 := Lib.hid hz1
  have HZ2 := Lib.hid hz2
  unfold maxLen at hm0 hm1
  try unfold maxLen at hm2
  clear hz0 hz1 hz2
  obtain ⟨T, hT⟩ : ∃ T, w.heap.size = T := ⟨_, rfl⟩
  have hs0 := (Sep.start w).box #[.slice A0 n0 c0, .slice A1 n1 c1] 25
  rw [hT] at hs0
  have HS0 := Lib.hid hs0
  clear hs0
  have hmm := @run_makeMap Try.prog
  go_enter Try.func4, Try.ntmps4
  by_cases hsmall : (n0 ≤ 40 ∧ n1 ≤ 120) ∧ n2 ≤ 40
  · have hsd : (decide (n0 ≤ 40) && decide (n1 ≤ 120)) = true := by rw [decide_eq_true hsmall.1.1, decide_eq_true hsmall.1.2]; rfl
    have HSD := Lib.hid hsd
    obtain ⟨⟨hn0, hn1⟩, hn2⟩ := hsmall
    clear hsd
    have hgt : ¬ (40 : Int) < (n2 : Int) := by omega
    go_wp2_with (first
      | (go_at_call 29; refine (fit14 _).mono ?_; rintro e w1 ⟨rfl, hC⟩; have hs1 := HS0.out.same hC; have p0 := (hs1.blk 0 rfl).cell 0; have p1 := (hs1.blk 0 rfl).cell 1; simp only [List.getElem?_toArray, List.getElem?_cons_zero, List.getElem?_cons_succ] at p0 p1; have HS1 := Lib.hid hs1; clear hC hs1 HS0)
      | (go_at_call 17; refine (Small11 _ A0 n0 c0 A1 n1 c1).mono ?_; rw [HSD.out]; rintro e w2 ⟨rfl, hC⟩; have hs1 := HS1.out.same hC; have p0 := (hs1.blk 0 rfl).cell 0; have p1 := (hs1.blk 0 rfl).cell 1; simp only [List.getElem?_toArray, List.getElem?_cons_zero, List.getElem?_cons_succ] at p0 p1; have HS2 := Lib.hid hs1; clear hC hs1 HS1)
      | (go_at_call 18; refine (Made11 A0 n0 c0 D0 A1 n1 c1 D1 HZ0.out HZ1.out hn0 hn1 HS2.out).mono ?_; rintro e w3 ⟨a, b, v, A, rs, fs, rfl, hgr, hlen, hs⟩; have p0 := (hs.blk 3 rfl).cell 0; have p1 := (hs.blk 3 rfl).cell 1; simp only [List.getElem?_toArray, List.getElem?_cons_zero, List.getElem?_cons_succ] at p0 p1; have HGR := Lib.hid hgr; obtain ⟨AL, capl, rfl, hcapl, hmcapl⟩ := hs.rowShape 1 rfl; unfold maxLen at hmcapl; obtain ⟨Rn, hRn⟩ : ∃ Rn, rs.length = Rn := ⟨_, rfl⟩; have HRN := Lib.hid hRn; rw [hRn] at hcapl hs; try rw [hRn]; rw [hRn] at hlen; have hl40 : Rn ≤ 40 := (by omega); have HLEN := Lib.hid hlen; have HS3 := Lib.hid hs; clear hs hgr HS2 hRn hlen)
      | (go_at_call 19; refine (KNew HS3.out 0 rfl HGR.out.size (by omega) 64 (by omega)).mono ?_; rintro e w4 ⟨m, rfl, hs⟩; have HC := Lib.hid (YNew hs m); clear hs HS3)
      | (go_at_call 30; refine (HC.out).mono ?_; rintro e w5 ⟨bb, rfl, hs⟩; obtain ⟨mi, hmi⟩ : ∃ mi, w5.heap.size = mi := ⟨_, rfl⟩; have hs5 := (show Sep w w5 (yuaR bb m :: markR m a 2049 (Col.white) :: arenaR a A :: rowR 36 1 (.slice AL Rn capl) Rn (nums rs) :: adjR Try.prog 36 36 b (ptsOf fs) :: blkR T 25 #[.slice A0 n0 c0, .slice A1 n1 c1] :: []) from hs).newMap Try.prog 35 36 3 .i64 .i64; rw [hmi] at hs5; have HS5 := Lib.hid (show Sep w (w5.alloc (.map #[] 0)) (mapR Try.prog 35 36 3 .i64 .i64 mi (0) (fun _ => none) :: yuaR bb m :: markR m a 2049 (Col.white) :: arenaR a A :: rowR 36 1 (.slice AL Rn capl) Rn (nums rs) :: adjR Try.prog 36 36 b (ptsOf fs) :: blkR T 25 #[.slice A0 n0 c0, .slice A1 n1 c1] :: []) from hs5); clear hs hs5 HC))
    try simp only [hmi]
    clear hmi hmm
    go_loopw [43] (fun i wr => ∃ (k cn : Nat) (M : Int → Option Int) (C : Col), k ≤ n2 ∧ i = .int .i64 k ∧ cn ≤ 2 * k ∧ ColM M C ∧ (∀ x, C.sc x = false) ∧ Sep w wr (mapR Try.prog 35 36 3 .i64 .i64 mi (cn) (M) :: yuaR bb m :: markR m a 2049 (C) :: arenaR a A :: rowR 36 1 (.slice AL Rn capl) Rn (nums rs) :: adjR Try.prog 36 36 b (ptsOf fs) :: blkR T 25 #[.slice A0 n0 c0, .slice A1 n1 c1] :: [])) (fun i _ => n2 + 1 - (intOf i).toNat)
    case atStart => exact ⟨0, 0, _, Col.white, by omega, rfl, by omega, colM_none, (fun _ => rfl), HS5.out⟩
    case round =>
      clear HS5
      obtain ⟨k, cn, M, C, hk, rfl, hcn, hcm, hsc, hs⟩ := hrel
      have HCM := Lib.hid hcm
      have HSC := Lib.hid hsc
      clear hcm hsc
      by_cases hlt : k < n2
      · have hltI : (k : Int) < (n2 : Int) := by omega
        rcases Nat.eq_zero_or_pos Rn with hk0 | hkp
        · obtain ⟨ab, ao, hA0, hcell⟩ := HZ2.out.at_ hs.own hlt
          subst hA0
          have hc0 := hcell 0 _ rfl
          have hw0 := wf8 (HZ2.out.wf hlt 0 .u8 rfl)
          have hc1 := hcell 1 _ rfl
          have hw1 := wf8 (HZ2.out.wf hlt 1 .u8 rfl)
          have hc2 := hcell 2 _ rfl
          have hw2 := wf8 (HZ2.out.wf hlt 2 .u8 rfl)
          have hc3 := hcell 3 _ rfl
          have hw3 := wf8 (HZ2.out.wf hlt 3 .u8 rfl)
          simp at hc0 hc1 hc2 hc3
          obtain ⟨d0, h0⟩ : ∃ d, D2 k 0 = d := ⟨_, rfl⟩
          rw [h0] at hc0 hw0
          obtain ⟨d1, h1⟩ : ∃ d, D2 k 1 = d := ⟨_, rfl⟩
          rw [h1] at hc1 hw1
          obtain ⟨d2, h2⟩ : ∃ d, D2 k 2 = d := ⟨_, rfl⟩
          rw [h2] at hc2 hw2
          obtain ⟨d3, h3⟩ : ∃ d, D2 k 3 = d := ⟨_, rfl⟩
          rw [h3] at hc3 hw3
          clear hcell h0 h1 h2 h3
          have hkI : (Rn : Int) = 0 := by omega
          have hkb : ((Rn : Int) == 0) = true := by simpa using hkI
          have HSE := Lib.hid (hs.box #[.int .u8 d0, .int .u8 d1, .int .u8 d2, .int .u8 d3] 50).tail
          clear hs hk0
          have HCC := Lib.hid (KCount HSE.out 2 rfl)
          go_wp2_with (first
            | (go_at_call 33; refine (HCC.out).mono ?_; rintro e w9 ⟨rfl, hs⟩; have HCD := Lib.hid (KCount hs 2 rfl); clear hs HCC HSE)
            | (go_at_call 34; refine (YRemark _ bb).mono ?_; rintro e w10 ⟨rfl, rfl⟩)
            | (go_at_call 35; refine (YReset _ bb).mono ?_; rintro e w11 ⟨rfl, rfl⟩)
            | (go_at_call 33; refine (HCD.out).mono ?_; rintro e w12 ⟨rfl, hs⟩; have HS9 := Lib.hid hs; clear hs HCD))
          go_ret
          exact ⟨rfl, HS9.out.below⟩
        have hkz : ¬ (Rn : Int) = 0 := by omega
        have hkb : ((Rn : Int) == 0) = false := by simp; omega
        obtain ⟨ab, ao, hA0, hcell⟩ := HZ2.out.at_ hs.own hlt
        subst hA0
        have hc0 := hcell 0 _ rfl
        have hw0 := wf8 (HZ2.out.wf hlt 0 .u8 rfl)
        have hc1 := hcell 1 _ rfl
        have hw1 := wf8 (HZ2.out.wf hlt 1 .u8 rfl)
        have hc2 := hcell 2 _ rfl
        have hw2 := wf8 (HZ2.out.wf hlt 2 .u8 rfl)
        have hc3 := hcell 3 _ rfl
        have hw3 := wf8 (HZ2.out.wf hlt 3 .u8 rfl)
        simp at hc0 hc1 hc2 hc3
        obtain ⟨d0, h0⟩ : ∃ d, D2 k 0 = d := ⟨_, rfl⟩
        rw [h0] at hc0 hw0
        obtain ⟨d1, h1⟩ : ∃ d, D2 k 1 = d := ⟨_, rfl⟩
        rw [h1] at hc1 hw1
        obtain ⟨d2, h2⟩ : ∃ d, D2 k 2 = d := ⟨_, rfl⟩
        rw [h2] at hc2 hw2
        obtain ⟨d3, h3⟩ : ∃ d, D2 k 3 = d := ⟨_, rfl⟩
        rw [h3] at hc3 hw3
        clear hcell h0 h1 h2 h3
        obtain ⟨g, cap', hsl, _, _⟩ := hs.rowSome 4 rfl hkp
        simp only [Value.slice.injEq] at hsl
        obtain ⟨rfl, _, rfl⟩ := hsl
        obtain ⟨K1, um, ul⟩ : ∃ K1 : Nat, d0.tmod (Rn : Int) = (K1 : Int) ∧ K1 < Rn := by
          have h1 := Int.emod_nonneg d0 (show (Rn : Int) ≠ 0 by omega)
          have h2 := Int.emod_lt_of_pos d0 (show (0 : Int) < (Rn : Int) by omega)
          refine ⟨(d0 % (Rn : Int)).toNat, ?_, by omega⟩
          rw [Int.tmod_eq_emod_of_nonneg (by omega)]
          omega
        have uI : (K1 : Int) < (Rn : Int) := by omega
        have u0 : (0 : Int) ≤ (K1 : Int) := by omega
        obtain ⟨K2, vm, vl⟩ : ∃ K2 : Nat, d1.tmod (Rn : Int) = (K2 : Int) ∧ K2 < Rn := by
          have h1 := Int.emod_nonneg d1 (show (Rn : Int) ≠ 0 by omega)
          have h2 := Int.emod_lt_of_pos d1 (show (0 : Int) < (Rn : Int) by omega)
          refine ⟨(d1 % (Rn : Int)).toNat, ?_, by omega⟩
          rw [Int.tmod_eq_emod_of_nonneg (by omega)]
          omega
        have vI : (K2 : Int) < (Rn : Int) := by omega
        have v0 : (0 : Int) ≤ (K2 : Int) := by omega
        obtain ⟨K3, tm, tl⟩ : ∃ K3 : Nat, d2.tmod (Rn : Int) = (K3 : Int) ∧ K3 < Rn := by
          have h1 := Int.emod_nonneg d2 (show (Rn : Int) ≠ 0 by omega)
          have h2 := Int.emod_lt_of_pos d2 (show (0 : Int) < (Rn : Int) by omega)
          refine ⟨(d2 % (Rn : Int)).toNat, ?_, by omega⟩
          rw [Int.tmod_eq_emod_of_nonneg (by omega)]
          omega
        have tI : (K3 : Int) < (Rn : Int) := by omega
        have t0 : (0 : Int) ≤ (K3 : Int) := by omega
        obtain ⟨rx, hx⟩ : ∃ x, rs[K1]? = some x := ⟨_, List.getElem?_eq_getElem (by rw [HRN.out]; exact ul)⟩
        obtain ⟨ry, hy⟩ : ∃ x, rs[K2]? = some x := ⟨_, List.getElem?_eq_getElem (by rw [HRN.out]; exact vl)⟩
        obtain ⟨rz, hz⟩ : ∃ x, rs[K3]? = some x := ⟨_, List.getElem?_eq_getElem (by rw [HRN.out]; exact tl)⟩
        have hy2 := HGR.out.lt (List.mem_of_getElem? hy)
        have hz2 := HGR.out.lt (List.mem_of_getElem? hz)
        have HX := Lib.hid hx
        have HY := Lib.hid hy
        have HZ := Lib.hid hz
        obtain ⟨T5, hT5⟩ : ∃ T5, wr.heap.size = T5 := ⟨_, rfl⟩
        have hsb := hs.box #[.int .u8 d0, .int .u8 d1, .int .u8 d2, .int .u8 d3] 50
        rw [hT5] at hsb
        have HSB := Lib.hid hsb
        clear hs hsb hx hy hz
        go_wp2
        refine region_sep HSB.out (by kernel_rfl) (by kernel_rfl) ?_
        intro hne0
        have yz0 : ∀ x : SepW w (blkR T5 50 #[.int .u8 d0, .int .u8 d1, .int .u8 d2, .int .u8 d3] :: mapR Try.prog 35 36 3 .i64 .i64 mi (cn) (M) :: yuaR bb m :: markR m a 2049 (C) :: arenaR a A :: rowR 36 1 (.slice (some ⟨g, 0, none⟩) Rn capl) Rn (nums rs) :: adjR Try.prog 36 36 b (ptsOf fs) :: blkR T 25 #[.slice A0 n0 c0, .slice A1 n1 c1] :: []), x.w'.cell? ⟨T5, 0, none⟩ = some (.int .u8 d0) := fun x => by
          have := (x.h.blk 0 rfl).cell 0
          simpa using this
        have yz1 : ∀ x : SepW w (blkR T5 50 #[.int .u8 d0, .int .u8 d1, .int .u8 d2, .int .u8 d3] :: mapR Try.prog 35 36 3 .i64 .i64 mi (cn) (M) :: yuaR bb m :: markR m a 2049 (C) :: arenaR a A :: rowR 36 1 (.slice (some ⟨g, 0, none⟩) Rn capl) Rn (nums rs) :: adjR Try.prog 36 36 b (ptsOf fs) :: blkR T 25 #[.slice A0 n0 c0, .slice A1 n1 c1] :: []), x.w'.cell? ⟨T5, 1, none⟩ = some (.int .u8 d1) := fun x => by
          have := (x.h.blk 0 rfl).cell 1
          simpa using this
        have yz2 : ∀ x : SepW w (blkR T5 50 #[.int .u8 d0, .int .u8 d1, .int .u8 d2, .int .u8 d3] :: mapR Try.prog 35 36 3 .i64 .i64 mi (cn) (M) :: yuaR bb m :: markR m a 2049 (C) :: arenaR a A :: rowR 36 1 (.slice (some ⟨g, 0, none⟩) Rn capl) Rn (nums rs) :: adjR Try.prog 36 36 b (ptsOf fs) :: blkR T 25 #[.slice A0 n0 c0, .slice A1 n1 c1] :: []), x.w'.cell? ⟨T5, 2, none⟩ = some (.int .u8 d2) := fun x => by
          have := (x.h.blk 0 rfl).cell 2
          simpa using this
        have yx : ∀ x : SepW w (blkR T5 50 #[.int .u8 d0, .int .u8 d1, .int .u8 d2, .int .u8 d3] :: mapR Try.prog 35 36 3 .i64 .i64 mi (cn) (M) :: yuaR bb m :: markR m a 2049 (C) :: arenaR a A :: rowR 36 1 (.slice (some ⟨g, 0, none⟩) Rn capl) Rn (nums rs) :: adjR Try.prog 36 36 b (ptsOf fs) :: blkR T 25 #[.slice A0 n0 c0, .slice A1 n1 c1] :: []), x.w'.cell? ⟨g, K1, none⟩ = some (.int .i64 (rx : Int)) := fun x => x.h.rowCell 5 rfl K1 _ (nums_get _ _ _ HX.out)
        have yy : ∀ x : SepW w (blkR T5 50 #[.int .u8 d0, .int .u8 d1, .int .u8 d2, .int .u8 d3] :: mapR Try.prog 35 36 3 .i64 .i64 mi (cn) (M) :: yuaR bb m :: markR m a 2049 (C) :: arenaR a A :: rowR 36 1 (.slice (some ⟨g, 0, none⟩) Rn capl) Rn (nums rs) :: adjR Try.prog 36 36 b (ptsOf fs) :: blkR T 25 #[.slice A0 n0 c0, .slice A1 n1 c1] :: []), x.w'.cell? ⟨g, K2, none⟩ = some (.int .i64 (ry : Int)) := fun x => x.h.rowCell 5 rfl K2 _ (nums_get _ _ _ HY.out)
        have yz : ∀ x : SepW w (blkR T5 50 #[.int .u8 d0, .int .u8 d1, .int .u8 d2, .int .u8 d3] :: mapR Try.prog 35 36 3 .i64 .i64 mi (cn) (M) :: yuaR bb m :: markR m a 2049 (C) :: arenaR a A :: rowR 36 1 (.slice (some ⟨g, 0, none⟩) Rn capl) Rn (nums rs) :: adjR Try.prog 36 36 b (ptsOf fs) :: blkR T 25 #[.slice A0 n0 c0, .slice A1 n1 c1] :: []), x.w'.cell? ⟨g, K3, none⟩ = some (.int .i64 (rz : Int)) := fun x => x.h.rowCell 5 rfl K3 _ (nums_get _ _ _ HZ.out)
        repeat (go_big_quiet_step (fail))
        refine wpQuiet_nil ?_
        rintro wq ⟨⟨wqx, hs⟩, rfl⟩
        clear yz0 yz1 yz2 yx yy yz hne0
        have hxa := and8_3 (x := d3 / 2) ⟨by omega, by omega⟩
        have hxe := and8_1 (x := d3) hw3
        obtain ⟨q, hq, hql⟩ : ∃ q : Nat, d3 / 2 % 4 = (q : Int) ∧ q ≤ 3 := ⟨(d3 / 2 % 4).toNat, by omega, by omega⟩
        rw [hq] at hxa
        have hq4 : q = 0 ∨ q = 1 ∨ q = 2 ∨ q = 3 := by omega
        have he2 : d3 % 2 = 0 ∨ d3 % 2 = 1 := by omega
        have z3 := (hs.blk 0 rfl).cell 3
        simp only [List.getElem?_toArray, List.getElem?_cons_zero, List.getElem?_cons_succ] at z3
        have HS6 := Lib.hid hs
        clear hs hq hql HSB hT5
        rcases he2 with he | he
        all_goals
          rw [he] at hxe
          clear he
          rcases hq4 with rfl | rfl | rfl | rfl
        · simp only [Int.natCast_zero, Int.ofNat_zero] at hxa
          have HCP := Lib.hid (YPre HS6.out 2 3 rfl rfl (rx : Int) ry hy2.2)
          clear HS6
          go_wp2_with (first
            | (go_at_call 31; refine (HCP.out).mono ?_; rintro e w6 ⟨rfl, hs⟩; obtain ⟨w_cn3, hput, hs8⟩ := map_put refIntOk hs 1 rfl (by unfold maxLen; omega) (wfx (x := ry) (by omega)) (c := 1) (by decide); obtain ⟨cn3, hcn2⟩ : ∃ c, (if (M (ry : Int)).isSome = true then cn else cn + 1) = c := ⟨_, rfl⟩; have hcn3 : cn3 ≤ cn + 1 := (by rw [← hcn2]; split <;> omega); rw [hcn2] at hs8; have HQcn3 := Lib.hid hs8; have HPcn3 := Lib.hid hput; clear hs8 hput hcn2; clear hs HCP)
            | (at_mapUpdate; refine wpList_mapUpdate_run rfl _ _ _ _ rfl rfl rfl rfl HPcn3.out ?_; clear HPcn3))
          obtain ⟨C2, hC2⟩ : ∃ C2, C.shade0 ry = C2 := ⟨_, rfl⟩
          obtain ⟨M2, hM2⟩ : ∃ M2, updM M (ry : Int) (some 1) = M2 := ⟨_, rfl⟩
          have HCM2 := Lib.hid (show ColM M2 C2 from by rw [← hC2, ← hM2]; exact HCM.out.upd (by rw [colN_shade0_self HSC.out hy2.1]; rfl) (fun y hy => colN_shade0_other C hy))
          have HSC2 := Lib.hid (show ∀ x, C2.sc x = false from by rw [← hC2]; exact sc_shade0 HSC.out ry)
          have hsi := HQcn3.out
          try simp only [List.set_cons_zero, List.set_cons_succ] at hsi
          rw [hC2, hM2] at hsi
          obtain ⟨cn2, hcn2, hcn2l⟩ : ∃ c, cn3 = c ∧ c ≤ cn3 := ⟨_, rfl, by omega⟩
          rw [hcn2] at hsi
          clear hcn2
          have HSI := Lib.hid (show Sep w _ (blkR T5 50 #[.int .u8 d0, .int .u8 d1, .int .u8 d2, .int .u8 d3] :: mapR Try.prog 35 36 3 .i64 .i64 mi (cn2) (M2) :: yuaR bb m :: markR m a 2049 (C2) :: arenaR a A :: rowR 36 1 (.slice (some ⟨g, 0, none⟩) Rn capl) Rn (nums rs) :: adjR Try.prog 36 36 b (ptsOf fs) :: blkR T 25 #[.slice A0 n0 c0, .slice A1 n1 c1] :: []) from hsi)
          clear hsi hC2 hM2 HQcn3
          go_loopw [122] (fun i wr => ∃ (q : Nat), q ≤ Rn ∧ i = .int .i64 q ∧ Sep w wr (blkR T5 50 #[.int .u8 d0, .int .u8 d1, .int .u8 d2, .int .u8 d3] :: mapR Try.prog 35 36 3 .i64 .i64 mi (cn2) (M2) :: yuaR bb m :: markR m a 2049 (C2) :: arenaR a A :: rowR 36 1 (.slice (some ⟨g, 0, none⟩) Rn capl) Rn (nums rs) :: adjR Try.prog 36 36 b (ptsOf fs) :: blkR T 25 #[.slice A0 n0 c0, .slice A1 n1 c1] :: [])) (fun i _ => Rn + 1 - (intOf i).toNat)
          case atStart => exact ⟨0, by omega, rfl, HSI.out⟩
          case round =>
            clear HSI
            obtain ⟨q, hk, rfl, hs⟩ := hrel
            by_cases hltq : q < Rn
            · have hltJ : (q : Int) < (Rn : Int) := by omega
              obtain ⟨xr, hx⟩ : ∃ z_, rs[q]? = some z_ := ⟨_, List.getElem?_eq_getElem (by rw [HRN.out]; exact hltq)⟩
              have cx := hs.rowCell 5 rfl q _ (nums_get _ _ _ hx)
              have hx2 := HGR.out.lt (List.mem_of_getElem? hx)
              have HSB := Lib.hid hs
              have hmk := fun W (S : Sep w W (blkR T5 50 #[.int .u8 d0, .int .u8 d1, .int .u8 d2, .int .u8 d3] :: mapR Try.prog 35 36 3 .i64 .i64 mi (cn2) (M2) :: yuaR bb m :: markR m a 2049 (C2) :: arenaR a A :: rowR 36 1 (.slice (some ⟨g, 0, none⟩) Rn capl) Rn (nums rs) :: adjR Try.prog 36 36 b (ptsOf fs) :: blkR T 25 #[.slice A0 n0 c0, .slice A1 n1 c1] :: [])) => KMarked S 3 rfl xr hx2.2
              have hsc := fun W (S : Sep w W (blkR T5 50 #[.int .u8 d0, .int .u8 d1, .int .u8 d2, .int .u8 d3] :: mapR Try.prog 35 36 3 .i64 .i64 mi (cn2) (M2) :: yuaR bb m :: markR m a 2049 (C2) :: arenaR a A :: rowR 36 1 (.slice (some ⟨g, 0, none⟩) Rn capl) Rn (nums rs) :: adjR Try.prog 36 36 b (ptsOf fs) :: blkR T 25 #[.slice A0 n0 c0, .slice A1 n1 c1] :: [])) => KScanned S 3 rfl xr hx2.2
              rw [HSC2.out xr] at hsc
              have hvx := HCM2.out xr
              unfold colN at hvx
              rw [HSC2.out xr] at hvx
              simp only [Bool.false_eq_true, if_false] at hvx
              obtain ⟨b, hb⟩ : ∃ b, C2.mz xr = b := ⟨_, rfl⟩
              rw [hb] at hmk hvx
              clear hs hx hb
              cases b
              · have HMK := Lib.hid (show ∀ W, Sep w W (blkR T5 50 #[.int .u8 d0, .int .u8 d1, .int .u8 d2, .int .u8 d3] :: mapR Try.prog 35 36 3 .i64 .i64 mi (cn2) (M2) :: yuaR bb m :: markR m a 2049 (C2) :: arenaR a A :: rowR 36 1 (.slice (some ⟨g, 0, none⟩) Rn capl) Rn (nums rs) :: adjR Try.prog 36 36 b (ptsOf fs) :: blkR T 25 #[.slice A0 n0 c0, .slice A1 n1 c1] :: []) → _ from hmk)
                have HSK := Lib.hid (show ∀ W, Sep w W (blkR T5 50 #[.int .u8 d0, .int .u8 d1, .int .u8 d2, .int .u8 d3] :: mapR Try.prog 35 36 3 .i64 .i64 mi (cn2) (M2) :: yuaR bb m :: markR m a 2049 (C2) :: arenaR a A :: rowR 36 1 (.slice (some ⟨g, 0, none⟩) Rn capl) Rn (nums rs) :: adjR Try.prog 36 36 b (ptsOf fs) :: blkR T 25 #[.slice A0 n0 c0, .slice A1 n1 c1] :: []) → _ from hsc)
                have HVX := Lib.hid hvx
                clear hmk hsc hvx
                go_wp2
                refine region_sep HSB.out (by kernel_rfl) (by kernel_rfl) ?_
                intro hne0
                have ylk : ∀ x : SepW w (blkR T5 50 #[.int .u8 d0, .int .u8 d1, .int .u8 d2, .int .u8 d3] :: mapR Try.prog 35 36 3 .i64 .i64 mi (cn2) (M2) :: yuaR bb m :: markR m a 2049 (C2) :: arenaR a A :: rowR 36 1 (.slice (some ⟨g, 0, none⟩) Rn capl) Rn (nums rs) :: adjR Try.prog 36 36 b (ptsOf fs) :: blkR T 25 #[.slice A0 n0 c0, .slice A1 n1 c1] :: []), (Instr.lookup 35 (.map (some mi)) (.int .i64 (xr : Int)) false).run Try.prog x.w' = .ok (.int .i64 0) x.w' := fun x => by
                  have := map_get refIntOk x.h 1 rfl (wfx (x := xr) (by omega))
                  rw [HVX.out] at this
                  simpa using this
                repeat (go_big_quiet_step (first
                  | (go_at_call 27; exact sep_calls (HMK.out _ (SepW.h _)))
                  | (go_at_call 28; exact sep_calls (HSK.out _ (SepW.h _)))))
                refine wpQuiet_nil ?_
                rintro wq ⟨⟨wqx, hs⟩, rfl⟩
                clear ylk hne0
                go_wp2
                go_roundw
                case rel => exact ⟨q + 1, by omega, by go_num, hs⟩
                case measure => simp [intOf]; omega
              · have HMK := Lib.hid (show ∀ W, Sep w W (blkR T5 50 #[.int .u8 d0, .int .u8 d1, .int .u8 d2, .int .u8 d3] :: mapR Try.prog 35 36 3 .i64 .i64 mi (cn2) (M2) :: yuaR bb m :: markR m a 2049 (C2) :: arenaR a A :: rowR 36 1 (.slice (some ⟨g, 0, none⟩) Rn capl) Rn (nums rs) :: adjR Try.prog 36 36 b (ptsOf fs) :: blkR T 25 #[.slice A0 n0 c0, .slice A1 n1 c1] :: []) → _ from hmk)
                have HSK := Lib.hid (show ∀ W, Sep w W (blkR T5 50 #[.int .u8 d0, .int .u8 d1, .int .u8 d2, .int .u8 d3] :: mapR Try.prog 35 36 3 .i64 .i64 mi (cn2) (M2) :: yuaR bb m :: markR m a 2049 (C2) :: arenaR a A :: rowR 36 1 (.slice (some ⟨g, 0, none⟩) Rn capl) Rn (nums rs) :: adjR Try.prog 36 36 b (ptsOf fs) :: blkR T 25 #[.slice A0 n0 c0, .slice A1 n1 c1] :: []) → _ from hsc)
                have HVX := Lib.hid hvx
                clear hmk hsc hvx
                go_wp2
                refine region_sep HSB.out (by kernel_rfl) (by kernel_rfl) ?_
                intro hne0
                have ylk : ∀ x : SepW w (blkR T5 50 #[.int .u8 d0, .int .u8 d1, .int .u8 d2, .int .u8 d3] :: mapR Try.prog 35 36 3 .i64 .i64 mi (cn2) (M2) :: yuaR bb m :: markR m a 2049 (C2) :: arenaR a A :: rowR 36 1 (.slice (some ⟨g, 0, none⟩) Rn capl) Rn (nums rs) :: adjR Try.prog 36 36 b (ptsOf fs) :: blkR T 25 #[.slice A0 n0 c0, .slice A1 n1 c1] :: []), (Instr.lookup 35 (.map (some mi)) (.int .i64 (xr : Int)) false).run Try.prog x.w' = .ok (.int .i64 1) x.w' := fun x => by
                  have := map_get refIntOk x.h 1 rfl (wfx (x := xr) (by omega))
                  rw [HVX.out] at this
                  simpa using this
                repeat (go_big_quiet_step (first
                  | (go_at_call 27; exact sep_calls (HMK.out _ (SepW.h _)))
                  | (go_at_call 28; exact sep_calls (HSK.out _ (SepW.h _)))))
                refine wpQuiet_nil ?_
                rintro wq ⟨⟨wqx, hs⟩, rfl⟩
                clear ylk hne0
                go_wp2
                go_roundw
                case rel => exact ⟨q + 1, by omega, by go_num, hs⟩
                case measure => simp [intOf]; omega
            · obtain rfl : Rn = q := by omega
              have HSX := Lib.hid hs.tail
              clear hs
              go_wp2
              go_roundw
              case rel => exact ⟨k + 1, cn2, M2, C2, by omega, by go_num, by omega, HCM2.out, HSC2.out, HSX.out⟩
              case measure => simp [intOf]; omega
        · have HCP := Lib.hid (YPost HS6.out 2 3 rfl (by decide) rfl (rx : Int) ry rz false false hy2.2 hz2.2)
          clear HS6
          go_wp2_with (first
            | (go_at_call 32; refine (HCP.out).mono ?_; rintro e w6 ⟨rfl, hs⟩; simp only [Bool.false_eq_true, if_false] at hs; obtain ⟨w_cn3, hput, hs8⟩ := map_put refIntOk hs 1 rfl (by unfold maxLen; omega) (wfx (x := ry) (by omega)) (c := 1) (by decide); obtain ⟨cn3, hcn2⟩ : ∃ c, (if (M (ry : Int)).isSome = true then cn else cn + 1) = c := ⟨_, rfl⟩; have hcn3 : cn3 ≤ cn + 1 := (by rw [← hcn2]; split <;> omega); rw [hcn2] at hs8; have HQcn3 := Lib.hid hs8; have HPcn3 := Lib.hid hput; clear hs8 hput hcn2; clear hs HCP)
            | (at_mapUpdate; refine wpList_mapUpdate_run rfl _ _ _ _ rfl rfl rfl rfl HPcn3.out ?_; clear HPcn3))
          obtain ⟨C2, hC2⟩ : ∃ C2, C.shade0 ry = C2 := ⟨_, rfl⟩
          obtain ⟨M2, hM2⟩ : ∃ M2, updM M (ry : Int) (some 1) = M2 := ⟨_, rfl⟩
          have HCM2 := Lib.hid (show ColM M2 C2 from by rw [← hC2, ← hM2]; exact HCM.out.upd (by rw [colN_shade0_self HSC.out hy2.1]; rfl) (fun y hy => colN_shade0_other C hy))
          have HSC2 := Lib.hid (show ∀ x, C2.sc x = false from by rw [← hC2]; exact sc_shade0 HSC.out ry)
          have hsi := HQcn3.out
          try simp only [List.set_cons_zero, List.set_cons_succ] at hsi
          rw [hC2, hM2] at hsi
          obtain ⟨cn2, hcn2, hcn2l⟩ : ∃ c, cn3 = c ∧ c ≤ cn3 := ⟨_, rfl, by omega⟩
          rw [hcn2] at hsi
          clear hcn2
          have HSI := Lib.hid (show Sep w _ (blkR T5 50 #[.int .u8 d0, .int .u8 d1, .int .u8 d2, .int .u8 d3] :: mapR Try.prog 35 36 3 .i64 .i64 mi (cn2) (M2) :: yuaR bb m :: markR m a 2049 (C2) :: arenaR a A :: rowR 36 1 (.slice (some ⟨g, 0, none⟩) Rn capl) Rn (nums rs) :: adjR Try.prog 36 36 b (ptsOf fs) :: blkR T 25 #[.slice A0 n0 c0, .slice A1 n1 c1] :: []) from hsi)
          clear hsi hC2 hM2 HQcn3
          go_loopw [122] (fun i wr => ∃ (q : Nat), q ≤ Rn ∧ i = .int .i64 q ∧ Sep w wr (blkR T5 50 #[.int .u8 d0, .int .u8 d1, .int .u8 d2, .int .u8 d3] :: mapR Try.prog 35 36 3 .i64 .i64 mi (cn2) (M2) :: yuaR bb m :: markR m a 2049 (C2) :: arenaR a A :: rowR 36 1 (.slice (some ⟨g, 0, none⟩) Rn capl) Rn (nums rs) :: adjR Try.prog 36 36 b (ptsOf fs) :: blkR T 25 #[.slice A0 n0 c0, .slice A1 n1 c1] :: [])) (fun i _ => Rn + 1 - (intOf i).toNat)
          case atStart => exact ⟨0, by omega, rfl, HSI.out⟩
          case round =>
            clear HSI
            obtain ⟨q, hk, rfl, hs⟩ := hrel
            by_cases hltq : q < Rn
            · have hltJ : (q : Int) < (Rn : Int) := by omega
              obtain ⟨xr, hx⟩ : ∃ z_, rs[q]? = some z_ := ⟨_, List.getElem?_eq_getElem (by rw [HRN.out]; exact hltq)⟩
              have cx := hs.rowCell 5 rfl q _ (nums_get _ _ _ hx)
              have hx2 := HGR.out.lt (List.mem_of_getElem? hx)
              have HSB := Lib.hid hs
              have hmk := fun W (S : Sep w W (blkR T5 50 #[.int .u8 d0, .int .u8 d1, .int .u8 d2, .int .u8 d3] :: mapR Try.prog 35 36 3 .i64 .i64 mi (cn2) (M2) :: yuaR bb m :: markR m a 2049 (C2) :: arenaR a A :: rowR 36 1 (.slice (some ⟨g, 0, none⟩) Rn capl) Rn (nums rs) :: adjR Try.prog 36 36 b (ptsOf fs) :: blkR T 25 #[.slice A0 n0 c0, .slice A1 n1 c1] :: [])) => KMarked S 3 rfl xr hx2.2
              have hsc := fun W (S : Sep w W (blkR T5 50 #[.int .u8 d0, .int .u8 d1, .int .u8 d2, .int .u8 d3] :: mapR Try.prog 35 36 3 .i64 .i64 mi (cn2) (M2) :: yuaR bb m :: markR m a 2049 (C2) :: arenaR a A :: rowR 36 1 (.slice (some ⟨g, 0, none⟩) Rn capl) Rn (nums rs) :: adjR Try.prog 36 36 b (ptsOf fs) :: blkR T 25 #[.slice A0 n0 c0, .slice A1 n1 c1] :: [])) => KScanned S 3 rfl xr hx2.2
              rw [HSC2.out xr] at hsc
              have hvx := HCM2.out xr
              unfold colN at hvx
              rw [HSC2.out xr] at hvx
              simp only [Bool.false_eq_true, if_false] at hvx
              obtain ⟨b, hb⟩ : ∃ b, C2.mz xr = b := ⟨_, rfl⟩
              rw [hb] at hmk hvx
              clear hs hx hb
              cases b
              · have HMK := Lib.hid (show ∀ W, Sep w W (blkR T5 50 #[.int .u8 d0, .int .u8 d1, .int .u8 d2, .int .u8 d3] :: mapR Try.prog 35 36 3 .i64 .i64 mi (cn2) (M2) :: yuaR bb m :: markR m a 2049 (C2) :: arenaR a A :: rowR 36 1 (.slice (some ⟨g, 0, none⟩) Rn capl) Rn (nums rs) :: adjR Try.prog 36 36 b (ptsOf fs) :: blkR T 25 #[.slice A0 n0 c0, .slice A1 n1 c1] :: []) → _ from hmk)
                have HSK := Lib.hid (show ∀ W, Sep w W (blkR T5 50 #[.int .u8 d0, .int .u8 d1, .int .u8 d2, .int .u8 d3] :: mapR Try.prog 35 36 3 .i64 .i64 mi (cn2) (M2) :: yuaR bb m :: markR m a 2049 (C2) :: arenaR a A :: rowR 36 1 (.slice (some ⟨g, 0, none⟩) Rn capl) Rn (nums rs) :: adjR Try.prog 36 36 b (ptsOf fs) :: blkR T 25 #[.slice A0 n0 c0, .slice A1 n1 c1] :: []) → _ from hsc)
                have HVX := Lib.hid hvx
                clear hmk hsc hvx
                go_wp2
                refine region_sep HSB.out (by kernel_rfl) (by kernel_rfl) ?_
                intro hne0
                have ylk : ∀ x : SepW w (blkR T5 50 #[.int .u8 d0, .int .u8 d1, .int .u8 d2, .int .u8 d3] :: mapR Try.prog 35 36 3 .i64 .i64 mi (cn2) (M2) :: yuaR bb m :: markR m a 2049 (C2) :: arenaR a A :: rowR 36 1 (.slice (some ⟨g, 0, none⟩) Rn capl) Rn (nums rs) :: adjR Try.prog 36 36 b (ptsOf fs) :: blkR T 25 #[.slice A0 n0 c0, .slice A1 n1 c1] :: []), (Instr.lookup 35 (.map (some mi)) (.int .i64 (xr : Int)) false).run Try.prog x.w' = .ok (.int .i64 0) x.w' := fun x => by
                  have := map_get refIntOk x.h 1 rfl (wfx (x := xr) (by omega))
                  rw [HVX.out] at this
                  simpa using this
                repeat (go_big_quiet_step (first
                  | (go_at_call 27; exact sep_calls (HMK.out _ (SepW.h _)))
                  | (go_at_call 28; exact sep_calls (HSK.out _ (SepW.h _)))))
                refine wpQuiet_nil ?_
                rintro wq ⟨⟨wqx, hs⟩, rfl⟩
                clear ylk hne0
                go_wp2
                go_roundw
                case rel => exact ⟨q + 1, by omega, by go_num, hs⟩
                case measure => simp [intOf]; omega
              · have HMK := Lib.hid (show ∀ W, Sep w W (blkR T5 50 #[.int .u8 d0, .int .u8 d1, .int .u8 d2, .int .u8 d3] :: mapR Try.prog 35 36 3 .i64 .i64 mi (cn2) (M2) :: yuaR bb m :: markR m a 2049 (C2) :: arenaR a A :: rowR 36 1 (.slice (some ⟨g, 0, none⟩) Rn capl) Rn (nums rs) :: adjR Try.prog 36 36 b (ptsOf fs) :: blkR T 25 #[.slice A0 n0 c0, .slice A1 n1 c1] :: []) → _ from hmk)
                have HSK := Lib.hid (show ∀ W, Sep w W (blkR T5 50 #[.int .u8 d0, .int .u8 d1, .int .u8 d2, .int .u8 d3] :: mapR Try.prog 35 36 3 .i64 .i64 mi (cn2) (M2) :: yuaR bb m :: markR m a 2049 (C2) :: arenaR a A :: rowR 36 1 (.slice (some ⟨g, 0, none⟩) Rn capl) Rn (nums rs) :: adjR Try.prog 36 36 b (ptsOf fs) :: blkR T 25 #[.slice A0 n0 c0, .slice A1 n1 c1] :: []) → _ from hsc)
                have HVX := Lib.hid hvx
                clear hmk hsc hvx
                go_wp2
                refine region_sep HSB.out (by kernel_rfl) (by kernel_rfl) ?_
                intro hne0
                have ylk : ∀ x : SepW w (blkR T5 50 #[.int .u8 d0, .int .u8 d1, .int .u8 d2, .int .u8 d3] :: mapR Try.prog 35 36 3 .i64 .i64 mi (cn2) (M2) :: yuaR bb m :: markR m a 2049 (C2) :: arenaR a A :: rowR 36 1 (.slice (some ⟨g, 0, none⟩) Rn capl) Rn (nums rs) :: adjR Try.prog 36 36 b (ptsOf fs) :: blkR T 25 #[.slice A0 n0 c0, .slice A1 n1 c1] :: []), (Instr.lookup 35 (.map (some mi)) (.int .i64 (xr : Int)) false).run Try.prog x.w' = .ok (.int .i64 1) x.w' := fun x => by
                  have := map_get refIntOk x.h 1 rfl (wfx (x := xr) (by omega))
                  rw [HVX.out] at this
                  simpa using this
                repeat (go_big_quiet_step (first
                  | (go_at_call 27; exact sep_calls (HMK.out _ (SepW.h _)))
                  | (go_at_call 28; exact sep_calls (HSK.out _ (SepW.h _)))))
                refine wpQuiet_nil ?_
                rintro wq ⟨⟨wqx, hs⟩, rfl⟩
                clear ylk hne0
                go_wp2
                go_roundw
                case rel => exact ⟨q + 1, by omega, by go_num, hs⟩
                case measure => simp [intOf]; omega
            · obtain rfl : Rn = q := by omega
              have HSX := Lib.hid hs.tail
              clear hs
              go_wp2
              go_roundw
              case rel => exact ⟨k + 1, cn2, M2, C2, by omega, by go_num, by omega, HCM2.out, HSC2.out, HSX.out⟩
              case measure => simp [intOf]; omega
        · have HCP := Lib.hid (YPostNew HS6.out 2 3 rfl (by decide) rfl 0 rz false false (by omega) hz2.2)
          clear HS6
          go_wp2_with (go_at_call 32; refine (HCP.out).mono ?_; rintro e w6 ⟨rfl, hs⟩; simp only [Bool.false_eq_true, if_false] at hs; have HS7 := Lib.hid hs; clear hs HCP)
          obtain ⟨C2, hC2⟩ : ∃ C2, C = C2 := ⟨_, rfl⟩
          obtain ⟨M2, hM2⟩ : ∃ M2, M = M2 := ⟨_, rfl⟩
          have HCM2 := Lib.hid (show ColM M2 C2 from by rw [← hC2, ← hM2]; exact HCM.out)
          have HSC2 := Lib.hid (show ∀ x, C2.sc x = false from by rw [← hC2]; exact HSC.out)
          have hsi := HS7.out
          try simp only [List.set_cons_zero, List.set_cons_succ] at hsi
          rw [hC2] at hsi
          rw [hM2] at hsi
          obtain ⟨cn2, hcn2, hcn2l⟩ : ∃ c, cn = c ∧ c ≤ cn := ⟨_, rfl, by omega⟩
          rw [hcn2] at hsi
          clear hcn2
          have HSI := Lib.hid (show Sep w _ (blkR T5 50 #[.int .u8 d0, .int .u8 d1, .int .u8 d2, .int .u8 d3] :: mapR Try.prog 35 36 3 .i64 .i64 mi (cn2) (M2) :: yuaR bb m :: markR m a 2049 (C2) :: arenaR a A :: rowR 36 1 (.slice (some ⟨g, 0, none⟩) Rn capl) Rn (nums rs) :: adjR Try.prog 36 36 b (ptsOf fs) :: blkR T 25 #[.slice A0 n0 c0, .slice A1 n1 c1] :: []) from hsi)
          clear hsi hC2 hM2 HS7
          go_loopw [122] (fun i wr => ∃ (q : Nat), q ≤ Rn ∧ i = .int .i64 q ∧ Sep w wr (blkR T5 50 #[.int .u8 d0, .int .u8 d1, .int .u8 d2, .int .u8 d3] :: mapR Try.prog 35 36 3 .i64 .i64 mi (cn2) (M2) :: yuaR bb m :: markR m a 2049 (C2) :: arenaR a A :: rowR 36 1 (.slice (some ⟨g, 0, none⟩) Rn capl) Rn (nums rs) :: adjR Try.prog 36 36 b (ptsOf fs) :: blkR T 25 #[.slice A0 n0 c0, .slice A1 n1 c1] :: [])) (fun i _ => Rn + 1 - (intOf i).toNat)
          case atStart => exact ⟨0, by omega, rfl, HSI.out⟩
          case round =>
            clear HSI
            obtain ⟨q, hk, rfl, hs⟩ := hrel
            by_cases hltq : q < Rn
            · have hltJ : (q : Int) < (Rn : Int) := by omega
              obtain ⟨xr, hx⟩ : ∃ z_, rs[q]? = some z_ := ⟨_, List.getElem?_eq_getElem (by rw [HRN.out]; exact hltq)⟩
              have cx := hs.rowCell 5 rfl q _ (nums_get _ _ _ hx)
              have hx2 := HGR.out.lt (List.mem_of_getElem? hx)
              have HSB := Lib.hid hs
              have hmk := fun W (S : Sep w W (blkR T5 50 #[.int .u8 d0, .int .u8 d1, .int .u8 d2, .int .u8 d3] :: mapR Try.prog 35 36 3 .i64 .i64 mi (cn2) (M2) :: yuaR bb m :: markR m a 2049 (C2) :: arenaR a A :: rowR 36 1 (.slice (some ⟨g, 0, none⟩) Rn capl) Rn (nums rs) :: adjR Try.prog 36 36 b (ptsOf fs) :: blkR T 25 #[.slice A0 n0 c0, .slice A1 n1 c1] :: [])) => KMarked S 3 rfl xr hx2.2
              have hsc := fun W (S : Sep w W (blkR T5 50 #[.int .u8 d0, .int .u8 d1, .int .u8 d2, .int .u8 d3] :: mapR Try.prog 35 36 3 .i64 .i64 mi (cn2) (M2) :: yuaR bb m :: markR m a 2049 (C2) :: arenaR a A :: rowR 36 1 (.slice (some ⟨g, 0, none⟩) Rn capl) Rn (nums rs) :: adjR Try.prog 36 36 b (ptsOf fs) :: blkR T 25 #[.slice A0 n0 c0, .slice A1 n1 c1] :: [])) => KScanned S 3 rfl xr hx2.2
              rw [HSC2.out xr] at hsc
              have hvx := HCM2.out xr
              unfold colN at hvx
              rw [HSC2.out xr] at hvx
              simp only [Bool.false_eq_true, if_false] at hvx
              obtain ⟨b, hb⟩ : ∃ b, C2.mz xr = b := ⟨_, rfl⟩
              rw [hb] at hmk hvx
              clear hs hx hb
              cases b
              · have HMK := Lib.hid (show ∀ W, Sep w W (blkR T5 50 #[.int .u8 d0, .int .u8 d1, .int .u8 d2, .int .u8 d3] :: mapR Try.prog 35 36 3 .i64 .i64 mi (cn2) (M2) :: yuaR bb m :: markR m a 2049 (C2) :: arenaR a A :: rowR 36 1 (.slice (some ⟨g, 0, none⟩) Rn capl) Rn (nums rs) :: adjR Try.prog 36 36 b (ptsOf fs) :: blkR T 25 #[.slice A0 n0 c0, .slice A1 n1 c1] :: []) → _ from hmk)
                have HSK := Lib.hid (show ∀ W, Sep w W (blkR T5 50 #[.int .u8 d0, .int .u8 d1, .int .u8 d2, .int .u8 d3] :: mapR Try.prog 35 36 3 .i64 .i64 mi (cn2) (M2) :: yuaR bb m :: markR m a 2049 (C2) :: arenaR a A :: rowR 36 1 (.slice (some ⟨g, 0, none⟩) Rn capl) Rn (nums rs) :: adjR Try.prog 36 36 b (ptsOf fs) :: blkR T 25 #[.slice A0 n0 c0, .slice A1 n1 c1] :: []) → _ from hsc)
                have HVX := Lib.hid hvx
                clear hmk hsc hvx
                go_wp2
                refine region_sep HSB.out (by kernel_rfl) (by kernel_rfl) ?_
                intro hne0
                have ylk : ∀ x : SepW w (blkR T5 50 #[.int .u8 d0, .int .u8 d1, .int .u8 d2, .int .u8 d3] :: mapR Try.prog 35 36 3 .i64 .i64 mi (cn2) (M2) :: yuaR bb m :: markR m a 2049 (C2) :: arenaR a A :: rowR 36 1 (.slice (some ⟨g, 0, none⟩) Rn capl) Rn (nums rs) :: adjR Try.prog 36 36 b (ptsOf fs) :: blkR T 25 #[.slice A0 n0 c0, .slice A1 n1 c1] :: []), (Instr.lookup 35 (.map (some mi)) (.int .i64 (xr : Int)) false).run Try.prog x.w' = .ok (.int .i64 0) x.w' := fun x => by
                  have := map_get refIntOk x.h 1 rfl (wfx (x := xr) (by omega))
                  rw [HVX.out] at this
                  simpa using this
                repeat (go_big_quiet_step (first
                  | (go_at_call 27; exact sep_calls (HMK.out _ (SepW.h _)))
                  | (go_at_call 28; exact sep_calls (HSK.out _ (SepW.h _)))))
                refine wpQuiet_nil ?_
                rintro wq ⟨⟨wqx, hs⟩, rfl⟩
                clear ylk hne0
                go_wp2
                go_roundw
                case rel => exact ⟨q + 1, by omega, by go_num, hs⟩
                case measure => simp [intOf]; omega
              · have HMK := Lib.hid (show ∀ W, Sep w W (blkR T5 50 #[.int .u8 d0, .int .u8 d1, .int .u8 d2, .int .u8 d3] :: mapR Try.prog 35 36 3 .i64 .i64 mi (cn2) (M2) :: yuaR bb m :: markR m a 2049 (C2) :: arenaR a A :: rowR 36 1 (.slice (some ⟨g, 0, none⟩) Rn capl) Rn (nums rs) :: adjR Try.prog 36 36 b (ptsOf fs) :: blkR T 25 #[.slice A0 n0 c0, .slice A1 n1 c1] :: []) → _ from hmk)
                have HSK := Lib.hid (show ∀ W, Sep w W (blkR T5 50 #[.int .u8 d0, .int .u8 d1, .int .u8 d2, .int .u8 d3] :: mapR Try.prog 35 36 3 .i64 .i64 mi (cn2) (M2) :: yuaR bb m :: markR m a 2049 (C2) :: arenaR a A :: rowR 36 1 (.slice (some ⟨g, 0, none⟩) Rn capl) Rn (nums rs) :: adjR Try.prog 36 36 b (ptsOf fs) :: blkR T 25 #[.slice A0 n0 c0, .slice A1 n1 c1] :: []) → _ from hsc)
                have HVX := Lib.hid hvx
                clear hmk hsc hvx
                go_wp2
                refine region_sep HSB.out (by kernel_rfl) (by kernel_rfl) ?_
                intro hne0
                have ylk : ∀ x : SepW w (blkR T5 50 #[.int .u8 d0, .int .u8 d1, .int .u8 d2, .int .u8 d3] :: mapR Try.prog 35 36 3 .i64 .i64 mi (cn2) (M2) :: yuaR bb m :: markR m a 2049 (C2) :: arenaR a A :: rowR 36 1 (.slice (some ⟨g, 0, none⟩) Rn capl) Rn (nums rs) :: adjR Try.prog 36 36 b (ptsOf fs) :: blkR T 25 #[.slice A0 n0 c0, .slice A1 n1 c1] :: []), (Instr.lookup 35 (.map (some mi)) (.int .i64 (xr : Int)) false).run Try.prog x.w' = .ok (.int .i64 1) x.w' := fun x => by
                  have := map_get refIntOk x.h 1 rfl (wfx (x := xr) (by omega))
                  rw [HVX.out] at this
                  simpa using this
                repeat (go_big_quiet_step (first
                  | (go_at_call 27; exact sep_calls (HMK.out _ (SepW.h _)))
                  | (go_at_call 28; exact sep_calls (HSK.out _ (SepW.h _)))))
                refine wpQuiet_nil ?_
                rintro wq ⟨⟨wqx, hs⟩, rfl⟩
                clear ylk hne0
                go_wp2
                go_roundw
                case rel => exact ⟨q + 1, by omega, by go_num, hs⟩
                case measure => simp [intOf]; omega
            · obtain rfl : Rn = q := by omega
              have HSX := Lib.hid hs.tail
              clear hs
              go_wp2
              go_roundw
              case rel => exact ⟨k + 1, cn2, M2, C2, by omega, by go_num, by omega, HCM2.out, HSC2.out, HSX.out⟩
              case measure => simp [intOf]; omega
        · have HCP := Lib.hid (YPre0 HS6.out 2 3 rfl rfl (rx : Int) (by omega))
          clear HS6
          go_wp2_with (go_at_call 31; refine (HCP.out).mono ?_; rintro e w6 ⟨rfl, hs⟩; have HS7 := Lib.hid hs; clear hs HCP)
          obtain ⟨C2, hC2⟩ : ∃ C2, C = C2 := ⟨_, rfl⟩
          obtain ⟨M2, hM2⟩ : ∃ M2, M = M2 := ⟨_, rfl⟩
          have HCM2 := Lib.hid (show ColM M2 C2 from by rw [← hC2, ← hM2]; exact HCM.out)
          have HSC2 := Lib.hid (show ∀ x, C2.sc x = false from by rw [← hC2]; exact HSC.out)
          have hsi := HS7.out
          try simp only [List.set_cons_zero, List.set_cons_succ] at hsi
          rw [hC2] at hsi
          rw [hM2] at hsi
          obtain ⟨cn2, hcn2, hcn2l⟩ : ∃ c, cn = c ∧ c ≤ cn := ⟨_, rfl, by omega⟩
          rw [hcn2] at hsi
          clear hcn2
          have HSI := Lib.hid (show Sep w _ (blkR T5 50 #[.int .u8 d0, .int .u8 d1, .int .u8 d2, .int .u8 d3] :: mapR Try.prog 35 36 3 .i64 .i64 mi (cn2) (M2) :: yuaR bb m :: markR m a 2049 (C2) :: arenaR a A :: rowR 36 1 (.slice (some ⟨g, 0, none⟩) Rn capl) Rn (nums rs) :: adjR Try.prog 36 36 b (ptsOf fs) :: blkR T 25 #[.slice A0 n0 c0, .slice A1 n1 c1] :: []) from hsi)
          clear hsi hC2 hM2 HS7
          go_loopw [122] (fun i wr => ∃ (q : Nat), q ≤ Rn ∧ i = .int .i64 q ∧ Sep w wr (blkR T5 50 #[.int .u8 d0, .int .u8 d1, .int .u8 d2, .int .u8 d3] :: mapR Try.prog 35 36 3 .i64 .i64 mi (cn2) (M2) :: yuaR bb m :: markR m a 2049 (C2) :: arenaR a A :: rowR 36 1 (.slice (some ⟨g, 0, none⟩) Rn capl) Rn (nums rs) :: adjR Try.prog 36 36 b (ptsOf fs) :: blkR T 25 #[.slice A0 n0 c0, .slice A1 n1 c1] :: [])) (fun i _ => Rn + 1 - (intOf i).toNat)
          case atStart => exact ⟨0, by omega, rfl, HSI.out⟩
          case round =>
            clear HSI
            obtain ⟨q, hk, rfl, hs⟩ := hrel
            by_cases hltq : q < Rn
            · have hltJ : (q : Int) < (Rn : Int) := by omega
              obtain ⟨xr, hx⟩ : ∃ z_, rs[q]? = some z_ := ⟨_, List.getElem?_eq_getElem (by rw [HRN.out]; exact hltq)⟩
              have cx := hs.rowCell 5 rfl q _ (nums_get _ _ _ hx)
              have hx2 := HGR.out.lt (List.mem_of_getElem? hx)
              have HSB := Lib.hid hs
              have hmk := fun W (S : Sep w W (blkR T5 50 #[.int .u8 d0, .int .u8 d1, .int .u8 d2, .int .u8 d3] :: mapR Try.prog 35 36 3 .i64 .i64 mi (cn2) (M2) :: yuaR bb m :: markR m a 2049 (C2) :: arenaR a A :: rowR 36 1 (.slice (some ⟨g, 0, none⟩) Rn capl) Rn (nums rs) :: adjR Try.prog 36 36 b (ptsOf fs) :: blkR T 25 #[.slice A0 n0 c0, .slice A1 n1 c1] :: [])) => KMarked S 3 rfl xr hx2.2
              have hsc := fun W (S : Sep w W (blkR T5 50 #[.int .u8 d0, .int .u8 d1, .int .u8 d2, .int .u8 d3] :: mapR Try.prog 35 36 3 .i64 .i64 mi (cn2) (M2) :: yuaR bb m :: markR m a 2049 (C2) :: arenaR a A :: rowR 36 1 (.slice (some ⟨g, 0, none⟩) Rn capl) Rn (nums rs) :: adjR Try.prog 36 36 b (ptsOf fs) :: blkR T 25 #[.slice A0 n0 c0, .slice A1 n1 c1] :: [])) => KScanned S 3 rfl xr hx2.2
              rw [HSC2.out xr] at hsc
              have hvx := HCM2.out xr
              unfold colN at hvx
              rw [HSC2.out xr] at hvx
              simp only [Bool.false_eq_true, if_false] at hvx
              obtain ⟨b, hb⟩ : ∃ b, C2.mz xr = b := ⟨_, rfl⟩
              rw [hb] at hmk hvx
              clear hs hx hb
              cases b
              · have HMK := Lib.hid (show ∀ W, Sep w W (blkR T5 50 #[.int .u8 d0, .int .u8 d1, .int .u8 d2, .int .u8 d3] :: mapR Try.prog 35 36 3 .i64 .i64 mi (cn2) (M2) :: yuaR bb m :: markR m a 2049 (C2) :: arenaR a A :: rowR 36 1 (.slice (some ⟨g, 0, none⟩) Rn capl) Rn (nums rs) :: adjR Try.prog 36 36 b (ptsOf fs) :: blkR T 25 #[.slice A0 n0 c0, .slice A1 n1 c1] :: []) → _ from hmk)
                have HSK := Lib.hid (show ∀ W, Sep w W (blkR T5 50 #[.int .u8 d0, .int .u8 d1, .int .u8 d2, .int .u8 d3] :: mapR Try.prog 35 36 3 .i64 .i64 mi (cn2) (M2) :: yuaR bb m :: markR m a 2049 (C2) :: arenaR a A :: rowR 36 1 (.slice (some ⟨g, 0, none⟩) Rn capl) Rn (nums rs) :: adjR Try.prog 36 36 b (ptsOf fs) :: blkR T 25 #[.slice A0 n0 c0, .slice A1 n1 c1] :: []) → _ from hsc)
                have HVX := Lib.hid hvx
                clear hmk hsc hvx
                go_wp2
                refine region_sep HSB.out (by kernel_rfl) (by kernel_rfl) ?_
                intro hne0
                have ylk : ∀ x : SepW w (blkR T5 50 #[.int .u8 d0, .int .u8 d1, .int .u8 d2, .int .u8 d3] :: mapR Try.prog 35 36 3 .i64 .i64 mi (cn2) (M2) :: yuaR bb m :: markR m a 2049 (C2) :: arenaR a A :: rowR 36 1 (.slice (some ⟨g, 0, none⟩) Rn capl) Rn (nums rs) :: adjR Try.prog 36 36 b (ptsOf fs) :: blkR T 25 #[.slice A0 n0 c0, .slice A1 n1 c1] :: []), (Instr.lookup 35 (.map (some mi)) (.int .i64 (xr : Int)) false).run Try.prog x.w' = .ok (.int .i64 0) x.w' := fun x => by
                  have := map_get refIntOk x.h 1 rfl (wfx (x := xr) (by omega))
                  rw [HVX.out] at this
                  simpa using this
                repeat (go_big_quiet_step (first
                  | (go_at_call 27; exact sep_calls (HMK.out _ (SepW.h _)))
                  | (go_at_call 28; exact sep_calls (HSK.out _ (SepW.h _)))))
                refine wpQuiet_nil ?_
                rintro wq ⟨⟨wqx, hs⟩, rfl⟩
                clear ylk hne0
                go_wp2
                go_roundw
                case rel => exact ⟨q + 1, by omega, by go_num, hs⟩
                case measure => simp [intOf]; omega
              · have HMK := Lib.hid (show ∀ W, Sep w W (blkR T5 50 #[.int .u8 d0, .int .u8 d1, .int .u8 d2, .int .u8 d3] :: mapR Try.prog 35 36 3 .i64 .i64 mi (cn2) (M2) :: yuaR bb m :: markR m a 2049 (C2) :: arenaR a A :: rowR 36 1 (.slice (some ⟨g, 0, none⟩) Rn capl) Rn (nums rs) :: adjR Try.prog 36 36 b (ptsOf fs) :: blkR T 25 #[.slice A0 n0 c0, .slice A1 n1 c1] :: []) → _ from hmk)
                have HSK := Lib.hid (show ∀ W, Sep w W (blkR T5 50 #[.int .u8 d0, .int .u8 d1, .int .u8 d2, .int .u8 d3] :: mapR Try.prog 35 36 3 .i64 .i64 mi (cn2) (M2) :: yuaR bb m :: markR m a 2049 (C2) :: arenaR a A :: rowR 36 1 (.slice (some ⟨g, 0, none⟩) Rn capl) Rn (nums rs) :: adjR Try.prog 36 36 b (ptsOf fs) :: blkR T 25 #[.slice A0 n0 c0, .slice A1 n1 c1] :: []) → _ from hsc)
                have HVX := Lib.hid hvx
                clear hmk hsc hvx
                go_wp2
                refine region_sep HSB.out (by kernel_rfl) (by kernel_rfl) ?_
                intro hne0
                have ylk : ∀ x : SepW w (blkR T5 50 #[.int .u8 d0, .int .u8 d1, .int .u8 d2, .int .u8 d3] :: mapR Try.prog 35 36 3 .i64 .i64 mi (cn2) (M2) :: yuaR bb m :: markR m a 2049 (C2) :: arenaR a A :: rowR 36 1 (.slice (some ⟨g, 0, none⟩) Rn capl) Rn (nums rs) :: adjR Try.prog 36 36 b (ptsOf fs) :: blkR T 25 #[.slice A0 n0 c0, .slice A1 n1 c1] :: []), (Instr.lookup 35 (.map (some mi)) (.int .i64 (xr : Int)) false).run Try.prog x.w' = .ok (.int .i64 1) x.w' := fun x => by
                  have := map_get refIntOk x.h 1 rfl (wfx (x := xr) (by omega))
                  rw [HVX.out] at this
                  simpa using this
                repeat (go_big_quiet_step (first
                  | (go_at_call 27; exact sep_calls (HMK.out _ (SepW.h _)))
                  | (go_at_call 28; exact sep_calls (HSK.out _ (SepW.h _)))))
                refine wpQuiet_nil ?_
                rintro wq ⟨⟨wqx, hs⟩, rfl⟩
                clear ylk hne0
                go_wp2
                go_roundw
                case rel => exact ⟨q + 1, by omega, by go_num, hs⟩
                case measure => simp [intOf]; omega
            · obtain rfl : Rn = q := by omega
              have HSX := Lib.hid hs.tail
              clear hs
              go_wp2
              go_roundw
              case rel => exact ⟨k + 1, cn2, M2, C2, by omega, by go_num, by omega, HCM2.out, HSC2.out, HSX.out⟩
              case measure => simp [intOf]; omega
        · simp only [Int.natCast_zero, Int.ofNat_zero] at hxa
          have HCP := Lib.hid (YPre HS6.out 2 3 rfl rfl (rx : Int) ry hy2.2)
          clear HS6
          go_wp2_with (first
            | (go_at_call 31; refine (HCP.out).mono ?_; rintro e w6 ⟨rfl, hs⟩; obtain ⟨w_cn3, hput, hs8⟩ := map_put refIntOk hs 1 rfl (by unfold maxLen; omega) (wfx (x := ry) (by omega)) (c := 1) (by decide); obtain ⟨cn3, hcn2⟩ : ∃ c, (if (M (ry : Int)).isSome = true then cn else cn + 1) = c := ⟨_, rfl⟩; have hcn3 : cn3 ≤ cn + 1 := (by rw [← hcn2]; split <;> omega); rw [hcn2] at hs8; have HQcn3 := Lib.hid hs8; have HPcn3 := Lib.hid hput; clear hs8 hput hcn2; clear hs HCP)
            | (at_mapUpdate; refine wpList_mapUpdate_run rfl _ _ _ _ rfl rfl rfl rfl HPcn3.out ?_; clear HPcn3))
          obtain ⟨C2, hC2⟩ : ∃ C2, C.shade0 ry = C2 := ⟨_, rfl⟩
          obtain ⟨M2, hM2⟩ : ∃ M2, updM M (ry : Int) (some 1) = M2 := ⟨_, rfl⟩
          have HCM2 := Lib.hid (show ColM M2 C2 from by rw [← hC2, ← hM2]; exact HCM.out.upd (by rw [colN_shade0_self HSC.out hy2.1]; rfl) (fun y hy => colN_shade0_other C hy))
          have HSC2 := Lib.hid (show ∀ x, C2.sc x = false from by rw [← hC2]; exact sc_shade0 HSC.out ry)
          have hsi := HQcn3.out
          try simp only [List.set_cons_zero, List.set_cons_succ] at hsi
          rw [hC2, hM2] at hsi
          obtain ⟨cn2, hcn2, hcn2l⟩ : ∃ c, cn3 = c ∧ c ≤ cn3 := ⟨_, rfl, by omega⟩
          rw [hcn2] at hsi
          clear hcn2
          have HSI := Lib.hid (show Sep w _ (blkR T5 50 #[.int .u8 d0, .int .u8 d1, .int .u8 d2, .int .u8 d3] :: mapR Try.prog 35 36 3 .i64 .i64 mi (cn2) (M2) :: yuaR bb m :: markR m a 2049 (C2) :: arenaR a A :: rowR 36 1 (.slice (some ⟨g, 0, none⟩) Rn capl) Rn (nums rs) :: adjR Try.prog 36 36 b (ptsOf fs) :: blkR T 25 #[.slice A0 n0 c0, .slice A1 n1 c1] :: []) from hsi)
          clear hsi hC2 hM2 HQcn3
          go_loopw [122] (fun i wr => ∃ (q : Nat), q ≤ Rn ∧ i = .int .i64 q ∧ Sep w wr (blkR T5 50 #[.int .u8 d0, .int .u8 d1, .int .u8 d2, .int .u8 d3] :: mapR Try.prog 35 36 3 .i64 .i64 mi (cn2) (M2) :: yuaR bb m :: markR m a 2049 (C2) :: arenaR a A :: rowR 36 1 (.slice (some ⟨g, 0, none⟩) Rn capl) Rn (nums rs) :: adjR Try.prog 36 36 b (ptsOf fs) :: blkR T 25 #[.slice A0 n0 c0, .slice A1 n1 c1] :: [])) (fun i _ => Rn + 1 - (intOf i).toNat)
          case atStart => exact ⟨0, by omega, rfl, HSI.out⟩
          case round =>
            clear HSI
            obtain ⟨q, hk, rfl, hs⟩ := hrel
            by_cases hltq : q < Rn
            · have hltJ : (q : Int) < (Rn : Int) := by omega
              obtain ⟨xr, hx⟩ : ∃ z_, rs[q]? = some z_ := ⟨_, List.getElem?_eq_getElem (by rw [HRN.out]; exact hltq)⟩
              have cx := hs.rowCell 5 rfl q _ (nums_get _ _ _ hx)
              have hx2 := HGR.out.lt (List.mem_of_getElem? hx)
              have HSB := Lib.hid hs
              have hmk := fun W (S : Sep w W (blkR T5 50 #[.int .u8 d0, .int .u8 d1, .int .u8 d2, .int .u8 d3] :: mapR Try.prog 35 36 3 .i64 .i64 mi (cn2) (M2) :: yuaR bb m :: markR m a 2049 (C2) :: arenaR a A :: rowR 36 1 (.slice (some ⟨g, 0, none⟩) Rn capl) Rn (nums rs) :: adjR Try.prog 36 36 b (ptsOf fs) :: blkR T 25 #[.slice A0 n0 c0, .slice A1 n1 c1] :: [])) => KMarked S 3 rfl xr hx2.2
              have hsc := fun W (S : Sep w W (blkR T5 50 #[.int .u8 d0, .int .u8 d1, .int .u8 d2, .int .u8 d3] :: mapR Try.prog 35 36 3 .i64 .i64 mi (cn2) (M2) :: yuaR bb m :: markR m a 2049 (C2) :: arenaR a A :: rowR 36 1 (.slice (some ⟨g, 0, none⟩) Rn capl) Rn (nums rs) :: adjR Try.prog 36 36 b (ptsOf fs) :: blkR T 25 #[.slice A0 n0 c0, .slice A1 n1 c1] :: [])) => KScanned S 3 rfl xr hx2.2
              rw [HSC2.out xr] at hsc
              have hvx := HCM2.out xr
              unfold colN at hvx
              rw [HSC2.out xr] at hvx
              simp only [Bool.false_eq_true, if_false] at hvx
              obtain ⟨b, hb⟩ : ∃ b, C2.mz xr = b := ⟨_, rfl⟩
              rw [hb] at hmk hvx
              clear hs hx hb
              cases b
              · have HMK := Lib.hid (show ∀ W, Sep w W (blkR T5 50 #[.int .u8 d0, .int .u8 d1, .int .u8 d2, .int .u8 d3] :: mapR Try.prog 35 36 3 .i64 .i64 mi (cn2) (M2) :: yuaR bb m :: markR m a 2049 (C2) :: arenaR a A :: rowR 36 1 (.slice (some ⟨g, 0, none⟩) Rn capl) Rn (nums rs) :: adjR Try.prog 36 36 b (ptsOf fs) :: blkR T 25 #[.slice A0 n0 c0, .slice A1 n1 c1] :: []) → _ from hmk)
                have HSK := Lib.hid (show ∀ W, Sep w W (blkR T5 50 #[.int .u8 d0, .int .u8 d1, .int .u8 d2, .int .u8 d3] :: mapR Try.prog 35 36 3 .i64 .i64 mi (cn2) (M2) :: yuaR bb m :: markR m a 2049 (C2) :: arenaR a A :: rowR 36 1 (.slice (some ⟨g, 0, none⟩) Rn capl) Rn (nums rs) :: adjR Try.prog 36 36 b (ptsOf fs) :: blkR T 25 #[.slice A0 n0 c0, .slice A1 n1 c1] :: []) → _ from hsc)
                have HVX := Lib.hid hvx
                clear hmk hsc hvx
                go_wp2
                refine region_sep HSB.out (by kernel_rfl) (by kernel_rfl) ?_
                intro hne0
                have ylk : ∀ x : SepW w (blkR T5 50 #[.int .u8 d0, .int .u8 d1, .int .u8 d2, .int .u8 d3] :: mapR Try.prog 35 36 3 .i64 .i64 mi (cn2) (M2) :: yuaR bb m :: markR m a 2049 (C2) :: arenaR a A :: rowR 36 1 (.slice (some ⟨g, 0, none⟩) Rn capl) Rn (nums rs) :: adjR Try.prog 36 36 b (ptsOf fs) :: blkR T 25 #[.slice A0 n0 c0, .slice A1 n1 c1] :: []), (Instr.lookup 35 (.map (some mi)) (.int .i64 (xr : Int)) false).run Try.prog x.w' = .ok (.int .i64 0) x.w' := fun x => by
                  have := map_get refIntOk x.h 1 rfl (wfx (x := xr) (by omega))
                  rw [HVX.out] at this
                  simpa using this
                repeat (go_big_quiet_step (first
                  | (go_at_call 27; exact sep_calls (HMK.out _ (SepW.h _)))
                  | (go_at_call 28; exact sep_calls (HSK.out _ (SepW.h _)))))
                refine wpQuiet_nil ?_
                rintro wq ⟨⟨wqx, hs⟩, rfl⟩
                clear ylk hne0
                go_wp2
                go_roundw
                case rel => exact ⟨q + 1, by omega, by go_num, hs⟩
                case measure => simp [intOf]; omega
              · have HMK := Lib.hid (show ∀ W, Sep w W (blkR T5 50 #[.int .u8 d0, .int .u8 d1, .int .u8 d2, .int .u8 d3] :: mapR Try.prog 35 36 3 .i64 .i64 mi (cn2) (M2) :: yuaR bb m :: markR m a 2049 (C2) :: arenaR a A :: rowR 36 1 (.slice (some ⟨g, 0, none⟩) Rn capl) Rn (nums rs) :: adjR Try.prog 36 36 b (ptsOf fs) :: blkR T 25 #[.slice A0 n0 c0, .slice A1 n1 c1] :: []) → _ from hmk)
                have HSK := Lib.hid (show ∀ W, Sep w W (blkR T5 50 #[.int .u8 d0, .int .u8 d1, .int .u8 d2, .int .u8 d3] :: mapR Try.prog 35 36 3 .i64 .i64 mi (cn2) (M2) :: yuaR bb m :: markR m a 2049 (C2) :: arenaR a A :: rowR 36 1 (.slice (some ⟨g, 0, none⟩) Rn capl) Rn (nums rs) :: adjR Try.prog 36 36 b (ptsOf fs) :: blkR T 25 #[.slice A0 n0 c0, .slice A1 n1 c1] :: []) → _ from hsc)
                have HVX := Lib.hid hvx
                clear hmk hsc hvx
                go_wp2
                refine region_sep HSB.out (by kernel_rfl) (by kernel_rfl) ?_
                intro hne0
                have ylk : ∀ x : SepW w (blkR T5 50 #[.int .u8 d0, .int .u8 d1, .int .u8 d2, .int .u8 d3] :: mapR Try.prog 35 36 3 .i64 .i64 mi (cn2) (M2) :: yuaR bb m :: markR m a 2049 (C2) :: arenaR a A :: rowR 36 1 (.slice (some ⟨g, 0, none⟩) Rn capl) Rn (nums rs) :: adjR Try.prog 36 36 b (ptsOf fs) :: blkR T 25 #[.slice A0 n0 c0, .slice A1 n1 c1] :: []), (Instr.lookup 35 (.map (some mi)) (.int .i64 (xr : Int)) false).run Try.prog x.w' = .ok (.int .i64 1) x.w' := fun x => by
                  have := map_get refIntOk x.h 1 rfl (wfx (x := xr) (by omega))
                  rw [HVX.out] at this
                  simpa using this
                repeat (go_big_quiet_step (first
                  | (go_at_call 27; exact sep_calls (HMK.out _ (SepW.h _)))
                  | (go_at_call 28; exact sep_calls (HSK.out _ (SepW.h _)))))
                refine wpQuiet_nil ?_
                rintro wq ⟨⟨wqx, hs⟩, rfl⟩
                clear ylk hne0
                go_wp2
                go_roundw
                case rel => exact ⟨q + 1, by omega, by go_num, hs⟩
                case measure => simp [intOf]; omega
            · obtain rfl : Rn = q := by omega
              have HSX := Lib.hid hs.tail
              clear hs
              go_wp2
              go_roundw
              case rel => exact ⟨k + 1, cn2, M2, C2, by omega, by go_num, by omega, HCM2.out, HSC2.out, HSX.out⟩
              case measure => simp [intOf]; omega
        · have HCP := Lib.hid (YPost HS6.out 2 3 rfl (by decide) rfl (rx : Int) ry rz false true hy2.2 hz2.2)
          clear HS6
          go_wp2_with (first
            | (go_at_call 32; refine (HCP.out).mono ?_; rintro e w6 ⟨rfl, hs⟩; simp only [if_true] at hs; obtain ⟨w_cn3, hput, hs8⟩ := map_put refIntOk hs 1 rfl (by unfold maxLen; omega) (wfx (x := ry) (by omega)) (c := 1) (by decide); obtain ⟨cn3, hcn2⟩ : ∃ c, (if (M (ry : Int)).isSome = true then cn else cn + 1) = c := ⟨_, rfl⟩; have hcn3 : cn3 ≤ cn + 1 := (by rw [← hcn2]; split <;> omega); rw [hcn2] at hs8; have HQcn3 := Lib.hid hs8; have HPcn3 := Lib.hid hput; clear hs8 hput hcn2; obtain ⟨w_cn4, hput, hs8⟩ := map_put refIntOk HQcn3.out 1 rfl (by unfold maxLen; omega) (wfx (x := rz) (by omega)) (c := 1) (by decide); obtain ⟨cn4, hcn2⟩ : ∃ c, (if ((updM M (ry : Int) (some 1)) (rz : Int)).isSome = true then cn3 else cn3 + 1) = c := ⟨_, rfl⟩; have hcn4 : cn4 ≤ cn3 + 1 := (by rw [← hcn2]; split <;> omega); rw [hcn2] at hs8; have HQcn4 := Lib.hid hs8; have HPcn4 := Lib.hid hput; clear hs8 hput hcn2; clear hs HCP HQcn3)
            | (at_mapUpdate; refine wpList_mapUpdate_run rfl _ _ _ _ rfl rfl rfl rfl HPcn3.out ?_; clear HPcn3)
            | (at_mapUpdate; refine wpList_mapUpdate_run rfl _ _ _ _ rfl rfl rfl rfl HPcn4.out ?_; clear HPcn4))
          obtain ⟨C2, hC2⟩ : ∃ C2, (C.shade0 ry).shade0 rz = C2 := ⟨_, rfl⟩
          obtain ⟨M2, hM2⟩ : ∃ M2, updM (updM M (ry : Int) (some 1)) (rz : Int) (some 1) = M2 := ⟨_, rfl⟩
          have HCM2 := Lib.hid (show ColM M2 C2 from by rw [← hC2, ← hM2]; exact (HCM.out.upd (by rw [colN_shade0_self HSC.out hy2.1]; rfl) (fun y hy => colN_shade0_other C hy)).upd (by rw [colN_shade0_self (sc_shade0 HSC.out ry) hz2.1]; rfl) (fun y hy => colN_shade0_other _ hy))
          have HSC2 := Lib.hid (show ∀ x, C2.sc x = false from by rw [← hC2]; exact sc_shade0 (sc_shade0 HSC.out ry) rz)
          have hsi := HQcn4.out
          try simp only [List.set_cons_zero, List.set_cons_succ] at hsi
          rw [hC2, hM2] at hsi
          obtain ⟨cn2, hcn2, hcn2l⟩ : ∃ c, cn4 = c ∧ c ≤ cn4 := ⟨_, rfl, by omega⟩
          rw [hcn2] at hsi
          clear hcn2
          have HSI := Lib.hid (show Sep w _ (blkR T5 50 #[.int .u8 d0, .int .u8 d1, .int .u8 d2, .int .u8 d3] :: mapR Try.prog 35 36 3 .i64 .i64 mi (cn2) (M2) :: yuaR bb m :: markR m a 2049 (C2) :: arenaR a A :: rowR 36 1 (.slice (some ⟨g, 0, none⟩) Rn capl) Rn (nums rs) :: adjR Try.prog 36 36 b (ptsOf fs) :: blkR T 25 #[.slice A0 n0 c0, .slice A1 n1 c1] :: []) from hsi)
          clear hsi hC2 hM2 HQcn4
          go_loopw [122] (fun i wr => ∃ (q : Nat), q ≤ Rn ∧ i = .int .i64 q ∧ Sep w wr (blkR T5 50 #[.int .u8 d0, .int .u8 d1, .int .u8 d2, .int .u8 d3] :: mapR Try.prog 35 36 3 .i64 .i64 mi (cn2) (M2) :: yuaR bb m :: markR m a 2049 (C2) :: arenaR a A :: rowR 36 1 (.slice (some ⟨g, 0, none⟩) Rn capl) Rn (nums rs) :: adjR Try.prog 36 36 b (ptsOf fs) :: blkR T 25 #[.slice A0 n0 c0, .slice A1 n1 c1] :: [])) (fun i _ => Rn + 1 - (intOf i).toNat)
          case atStart => exact ⟨0, by omega, rfl, HSI.out⟩
          case round =>
            clear HSI
            obtain ⟨q, hk, rfl, hs⟩ := hrel
            by_cases hltq : q < Rn
            · have hltJ : (q : Int) < (Rn : Int) := by omega
              obtain ⟨xr, hx⟩ : ∃ z_, rs[q]? = some z_ := ⟨_, List.getElem?_eq_getElem (by rw [HRN.out]; exact hltq)⟩
              have cx := hs.rowCell 5 rfl q _ (nums_get _ _ _ hx)
              have hx2 := HGR.out.lt (List.mem_of_getElem? hx)
              have HSB := Lib.hid hs
              have hmk := fun W (S : Sep w W (blkR T5 50 #[.int .u8 d0, .int .u8 d1, .int .u8 d2, .int .u8 d3] :: mapR Try.prog 35 36 3 .i64 .i64 mi (cn2) (M2) :: yuaR bb m :: markR m a 2049 (C2) :: arenaR a A :: rowR 36 1 (.slice (some ⟨g, 0, none⟩) Rn capl) Rn (nums rs) :: adjR Try.prog 36 36 b (ptsOf fs) :: blkR T 25 #[.slice A0 n0 c0, .slice A1 n1 c1] :: [])) => KMarked S 3 rfl xr hx2.2
              have hsc := fun W (S : Sep w W (blkR T5 50 #[.int .u8 d0, .int .u8 d1, .int .u8 d2, .int .u8 d3] :: mapR Try.prog 35 36 3 .i64 .i64 mi (cn2) (M2) :: yuaR bb m :: markR m a 2049 (C2) :: arenaR a A :: rowR 36 1 (.slice (some ⟨g, 0, none⟩) Rn capl) Rn (nums rs) :: adjR Try.prog 36 36 b (ptsOf fs) :: blkR T 25 #[.slice A0 n0 c0, .slice A1 n1 c1] :: [])) => KScanned S 3 rfl xr hx2.2
              rw [HSC2.out xr] at hsc
              have hvx := HCM2.out xr
              unfold colN at hvx
              rw [HSC2.out xr] at hvx
              simp only [Bool.false_eq_true, if_false] at hvx
              obtain ⟨b, hb⟩ : ∃ b, C2.mz xr = b := ⟨_, rfl⟩
              rw [hb] at hmk hvx
              clear hs hx hb
              cases b
              · have HMK := Lib.hid (show ∀ W, Sep w W (blkR T5 50 #[.int .u8 d0, .int .u8 d1, .int .u8 d2, .int .u8 d3] :: mapR Try.prog 35 36 3 .i64 .i64 mi (cn2) (M2) :: yuaR bb m :: markR m a 2049 (C2) :: arenaR a A :: rowR 36 1 (.slice (some ⟨g, 0, none⟩) Rn capl) Rn (nums rs) :: adjR Try.prog 36 36 b (ptsOf fs) :: blkR T 25 #[.slice A0 n0 c0, .slice A1 n1 c1] :: []) → _ from hmk)
                have HSK := Lib.hid (show ∀ W, Sep w W (blkR T5 50 #[.int .u8 d0, .int .u8 d1, .int .u8 d2, .int .u8 d3] :: mapR Try.prog 35 36 3 .i64 .i64 mi (cn2) (M2) :: yuaR bb m :: markR m a 2049 (C2) :: arenaR a A :: rowR 36 1 (.slice (some ⟨g, 0, none⟩) Rn capl) Rn (nums rs) :: adjR Try.prog 36 36 b (ptsOf fs) :: blkR T 25 #[.slice A0 n0 c0, .slice A1 n1 c1] :: []) → _ from hsc)
                have HVX := Lib.hid hvx
                clear hmk hsc hvx
                go_wp2
                refine region_sep HSB.out (by kernel_rfl) (by kernel_rfl) ?_
                intro hne0
                have ylk : ∀ x : SepW w (blkR T5 50 #[.int .u8 d0, .int .u8 d1, .int .u8 d2, .int .u8 d3] :: mapR Try.prog 35 36 3 .i64 .i64 mi (cn2) (M2) :: yuaR bb m :: markR m a 2049 (C2) :: arenaR a A :: rowR 36 1 (.slice (some ⟨g, 0, none⟩) Rn capl) Rn (nums rs) :: adjR Try.prog 36 36 b (ptsOf fs) :: blkR T 25 #[.slice A0 n0 c0, .slice A1 n1 c1] :: []), (Instr.lookup 35 (.map (some mi)) (.int .i64 (xr : Int)) false).run Try.prog x.w' = .ok (.int .i64 0) x.w' := fun x => by
                  have := map_get refIntOk x.h 1 rfl (wfx (x := xr) (by omega))
                  rw [HVX.out] at this
                  simpa using this
                repeat (go_big_quiet_step (first
                  | (go_at_call 27; exact sep_calls (HMK.out _ (SepW.h _)))
                  | (go_at_call 28; exact sep_calls (HSK.out _ (SepW.h _)))))
                refine wpQuiet_nil ?_
                rintro wq ⟨⟨wqx, hs⟩, rfl⟩
                clear ylk hne0
                go_wp2
                go_roundw
                case rel => exact ⟨q + 1, by omega, by go_num, hs⟩
                case measure => simp [intOf]; omega
              · have HMK := Lib.hid (show ∀ W, Sep w W (blkR T5 50 #[.int .u8 d0, .int .u8 d1, .int .u8 d2, .int .u8 d3] :: mapR Try.prog 35 36 3 .i64 .i64 mi (cn2) (M2) :: yuaR bb m :: markR m a 2049 (C2) :: arenaR a A :: rowR 36 1 (.slice (some ⟨g, 0, none⟩) Rn capl) Rn (nums rs) :: adjR Try.prog 36 36 b (ptsOf fs) :: blkR T 25 #[.slice A0 n0 c0, .slice A1 n1 c1] :: []) → _ from hmk)
                have HSK := Lib.hid (show ∀ W, Sep w W (blkR T5 50 #[.int .u8 d0, .int .u8 d1, .int .u8 d2, .int .u8 d3] :: mapR Try.prog 35 36 3 .i64 .i64 mi (cn2) (M2) :: yuaR bb m :: markR m a 2049 (C2) :: arenaR a A :: rowR 36 1 (.slice (some ⟨g, 0, none⟩) Rn capl) Rn (nums rs) :: adjR Try.prog 36 36 b (ptsOf fs) :: blkR T 25 #[.slice A0 n0 c0, .slice A1 n1 c1] :: []) → _ from hsc)
                have HVX := Lib.hid hvx
                clear hmk hsc hvx
                go_wp2
                refine region_sep HSB.out (by kernel_rfl) (by kernel_rfl) ?_
                intro hne0
                have ylk : ∀ x : SepW w (blkR T5 50 #[.int .u8 d0, .int .u8 d1, .int .u8 d2, .int .u8 d3] :: mapR Try.prog 35 36 3 .i64 .i64 mi (cn2) (M2) :: yuaR bb m :: markR m a 2049 (C2) :: arenaR a A :: rowR 36 1 (.slice (some ⟨g, 0, none⟩) Rn capl) Rn (nums rs) :: adjR Try.prog 36 36 b (ptsOf fs) :: blkR T 25 #[.slice A0 n0 c0, .slice A1 n1 c1] :: []), (Instr.lookup 35 (.map (some mi)) (.int .i64 (xr : Int)) false).run Try.prog x.w' = .ok (.int .i64 1) x.w' := fun x => by
                  have := map_get refIntOk x.h 1 rfl (wfx (x := xr) (by omega))
                  rw [HVX.out] at this
                  simpa using this
                repeat (go_big_quiet_step (first
                  | (go_at_call 27; exact sep_calls (HMK.out _ (SepW.h _)))
                  | (go_at_call 28; exact sep_calls (HSK.out _ (SepW.h _)))))
                refine wpQuiet_nil ?_
                rintro wq ⟨⟨wqx, hs⟩, rfl⟩
                clear ylk hne0
                go_wp2
                go_roundw
                case rel => exact ⟨q + 1, by omega, by go_num, hs⟩
                case measure => simp [intOf]; omega
            · obtain rfl : Rn = q := by omega
              have HSX := Lib.hid hs.tail
              clear hs
              go_wp2
              go_roundw
              case rel => exact ⟨k + 1, cn2, M2, C2, by omega, by go_num, by omega, HCM2.out, HSC2.out, HSX.out⟩
              case measure => simp [intOf]; omega
        · have HCP := Lib.hid (YPostNew HS6.out 2 3 rfl (by decide) rfl 0 rz false true (by omega) hz2.2)
          clear HS6
          go_wp2_with (first
            | (go_at_call 32; refine (HCP.out).mono ?_; rintro e w6 ⟨rfl, hs⟩; simp only [if_true] at hs; obtain ⟨w_cn3, hput, hs8⟩ := map_put refIntOk hs 1 rfl (by unfold maxLen; omega) (wfx (x := rz) (by omega)) (c := 1) (by decide); obtain ⟨cn3, hcn2⟩ : ∃ c, (if (M (rz : Int)).isSome = true then cn else cn + 1) = c := ⟨_, rfl⟩; have hcn3 : cn3 ≤ cn + 1 := (by rw [← hcn2]; split <;> omega); rw [hcn2] at hs8; have HQcn3 := Lib.hid hs8; have HPcn3 := Lib.hid hput; clear hs8 hput hcn2; clear hs HCP)
            | (at_mapUpdate; refine wpList_mapUpdate_run rfl _ _ _ _ rfl rfl rfl rfl HPcn3.out ?_; clear HPcn3))
          obtain ⟨C2, hC2⟩ : ∃ C2, C.shade0 rz = C2 := ⟨_, rfl⟩
          obtain ⟨M2, hM2⟩ : ∃ M2, updM M (rz : Int) (some 1) = M2 := ⟨_, rfl⟩
          have HCM2 := Lib.hid (show ColM M2 C2 from by rw [← hC2, ← hM2]; exact HCM.out.upd (by rw [colN_shade0_self HSC.out hz2.1]; rfl) (fun y hy => colN_shade0_other C hy))
          have HSC2 := Lib.hid (show ∀ x, C2.sc x = false from by rw [← hC2]; exact sc_shade0 HSC.out rz)
          have hsi := HQcn3.out
          try simp only [List.set_cons_zero, List.set_cons_succ] at hsi
          rw [hC2, hM2] at hsi
          obtain ⟨cn2, hcn2, hcn2l⟩ : ∃ c, cn3 = c ∧ c ≤ cn3 := ⟨_, rfl, by omega⟩
          rw [hcn2] at hsi
          clear hcn2
          have HSI := Lib.hid (show Sep w _ (blkR T5 50 #[.int .u8 d0, .int .u8 d1, .int .u8 d2, .int .u8 d3] :: mapR Try.prog 35 36 3 .i64 .i64 mi (cn2) (M2) :: yuaR bb m :: markR m a 2049 (C2) :: arenaR a A :: rowR 36 1 (.slice (some ⟨g, 0, none⟩) Rn capl) Rn (nums rs) :: adjR Try.prog 36 36 b (ptsOf fs) :: blkR T 25 #[.slice A0 n0 c0, .slice A1 n1 c1] :: []) from hsi)
          clear hsi hC2 hM2 HQcn3
          go_loopw [122] (fun i wr => ∃ (q : Nat), q ≤ Rn ∧ i = .int .i64 q ∧ Sep w wr (blkR T5 50 #[.int .u8 d0, .int .u8 d1, .int .u8 d2, .int .u8 d3] :: mapR Try.prog 35 36 3 .i64 .i64 mi (cn2) (M2) :: yuaR bb m :: markR m a 2049 (C2) :: arenaR a A :: rowR 36 1 (.slice (some ⟨g, 0, none⟩) Rn capl) Rn (nums rs) :: adjR Try.prog 36 36 b (ptsOf fs) :: blkR T 25 #[.slice A0 n0 c0, .slice A1 n1 c1] :: [])) (fun i _ => Rn + 1 - (intOf i).toNat)
          case atStart => exact ⟨0, by omega, rfl, HSI.out⟩
          case round =>
            clear HSI
            obtain ⟨q, hk, rfl, hs⟩ := hrel
            by_cases hltq : q < Rn
            · have hltJ : (q : Int) < (Rn : Int) := by omega
              obtain ⟨xr, hx⟩ : ∃ z_, rs[q]? = some z_ := ⟨_, List.getElem?_eq_getElem (by rw [HRN.out]; exact hltq)⟩
              have cx := hs.rowCell 5 rfl q _ (nums_get _ _ _ hx)
              have hx2 := HGR.out.lt (List.mem_of_getElem? hx)
              have HSB := Lib.hid hs
              have hmk := fun W (S : Sep w W (blkR T5 50 #[.int .u8 d0, .int .u8 d1, .int .u8 d2, .int .u8 d3] :: mapR Try.prog 35 36 3 .i64 .i64 mi (cn2) (M2) :: yuaR bb m :: markR m a 2049 (C2) :: arenaR a A :: rowR 36 1 (.slice (some ⟨g, 0, none⟩) Rn capl) Rn (nums rs) :: adjR Try.prog 36 36 b (ptsOf fs) :: blkR T 25 #[.slice A0 n0 c0, .slice A1 n1 c1] :: [])) => KMarked S 3 rfl xr hx2.2
              have hsc := fun W (S : Sep w W (blkR T5 50 #[.int .u8 d0, .int .u8 d1, .int .u8 d2, .int .u8 d3] :: mapR Try.prog 35 36 3 .i64 .i64 mi (cn2) (M2) :: yuaR bb m :: markR m a 2049 (C2) :: arenaR a A :: rowR 36 1 (.slice (some ⟨g, 0, none⟩) Rn capl) Rn (nums rs) :: adjR Try.prog 36 36 b (ptsOf fs) :: blkR T 25 #[.slice A0 n0 c0, .slice A1 n1 c1] :: [])) => KScanned S 3 rfl xr hx2.2
              rw [HSC2.out xr] at hsc
              have hvx := HCM2.out xr
              unfold colN at hvx
              rw [HSC2.out xr] at hvx
              simp only [Bool.false_eq_true, if_false] at hvx
              obtain ⟨b, hb⟩ : ∃ b, C2.mz xr = b := ⟨_, rfl⟩
              rw [hb] at hmk hvx
              clear hs hx hb
              cases b
              · have HMK := Lib.hid (show ∀ W, Sep w W (blkR T5 50 #[.int .u8 d0, .int .u8 d1, .int .u8 d2, .int .u8 d3] :: mapR Try.prog 35 36 3 .i64 .i64 mi (cn2) (M2) :: yuaR bb m :: markR m a 2049 (C2) :: arenaR a A :: rowR 36 1 (.slice (some ⟨g, 0, none⟩) Rn capl) Rn (nums rs) :: adjR Try.prog 36 36 b (ptsOf fs) :: blkR T 25 #[.slice A0 n0 c0, .slice A1 n1 c1] :: []) → _ from hmk)
                have HSK := Lib.hid (show ∀ W, Sep w W (blkR T5 50 #[.int .u8 d0, .int .u8 d1, .int .u8 d2, .int .u8 d3] :: mapR Try.prog 35 36 3 .i64 .i64 mi (cn2) (M2) :: yuaR bb m :: markR m a 2049 (C2) :: arenaR a A :: rowR 36 1 (.slice (some ⟨g, 0, none⟩) Rn capl) Rn (nums rs) :: adjR Try.prog 36 36 b (ptsOf fs) :: blkR T 25 #[.slice A0 n0 c0, .slice A1 n1 c1] :: []) → _ from hsc)
                have HVX := Lib.hid hvx
                clear hmk hsc hvx
                go_wp2
                refine region_sep HSB.out (by kernel_rfl) (by kernel_rfl) ?_
                intro hne0
                have ylk : ∀ x : SepW w (blkR T5 50 #[.int .u8 d0, .int .u8 d1, .int .u8 d2, .int .u8 d3] :: mapR Try.prog 35 36 3 .i64 .i64 mi (cn2) (M2) :: yuaR bb m :: markR m a 2049 (C2) :: arenaR a A :: rowR 36 1 (.slice (some ⟨g, 0, none⟩) Rn capl) Rn (nums rs) :: adjR Try.prog 36 36 b (ptsOf fs) :: blkR T 25 #[.slice A0 n0 c0, .slice A1 n1 c1] :: []), (Instr.lookup 35 (.map (some mi)) (.int .i64 (xr : Int)) false).run Try.prog x.w' = .ok (.int .i64 0) x.w' := fun x => by
                  have := map_get refIntOk x.h 1 rfl (wfx (x := xr) (by omega))
                  rw [HVX.out] at this
                  simpa using this
                repeat (go_big_quiet_step (first
                  | (go_at_call 27; exact sep_calls (HMK.out _ (SepW.h _)))
                  | (go_at_call 28; exact sep_calls (HSK.out _ (SepW.h _)))))
                refine wpQuiet_nil ?_
                rintro wq ⟨⟨wqx, hs⟩, rfl⟩
                clear ylk hne0
                go_wp2
                go_roundw
                case rel => exact ⟨q + 1, by omega, by go_num, hs⟩
                case measure => simp [intOf]; omega
              · have HMK := Lib.hid (show ∀ W, Sep w W (blkR T5 50 #[.int .u8 d0, .int .u8 d1, .int .u8 d2, .int .u8 d3] :: mapR Try.prog 35 36 3 .i64 .i64 mi (cn2) (M2) :: yuaR bb m :: markR m a 2049 (C2) :: arenaR a A :: rowR 36 1 (.slice (some ⟨g, 0, none⟩) Rn capl) Rn (nums rs) :: adjR Try.prog 36 36 b (ptsOf fs) :: blkR T 25 #[.slice A0 n0 c0, .slice A1 n1 c1] :: []) → _ from hmk)
                have HSK := Lib.hid (show ∀ W, Sep w W (blkR T5 50 #[.int .u8 d0, .int .u8 d1, .int .u8 d2, .int .u8 d3] :: mapR Try.prog 35 36 3 .i64 .i64 mi (cn2) (M2) :: yuaR bb m :: markR m a 2049 (C2) :: arenaR a A :: rowR 36 1 (.slice (some ⟨g, 0, none⟩) Rn capl) Rn (nums rs) :: adjR Try.prog 36 36 b (ptsOf fs) :: blkR T 25 #[.slice A0 n0 c0, .slice A1 n1 c1] :: []) → _ from hsc)
                have HVX := Lib.hid hvx
                clear hmk hsc hvx
                go_wp2
                refine region_sep HSB.out (by kernel_rfl) (by kernel_rfl) ?_
                intro hne0
                have ylk : ∀ x : SepW w (blkR T5 50 #[.int .u8 d0, .int .u8 d1, .int .u8 d2, .int .u8 d3] :: mapR Try.prog 35 36 3 .i64 .i64 mi (cn2) (M2) :: yuaR bb m :: markR m a 2049 (C2) :: arenaR a A :: rowR 36 1 (.slice (some ⟨g, 0, none⟩) Rn capl) Rn (nums rs) :: adjR Try.prog 36 36 b (ptsOf fs) :: blkR T 25 #[.slice A0 n0 c0, .slice A1 n1 c1] :: []), (Instr.lookup 35 (.map (some mi)) (.int .i64 (xr : Int)) false).run Try.prog x.w' = .ok (.int .i64 1) x.w' := fun x => by
                  have := map_get refIntOk x.h 1 rfl (wfx (x := xr) (by omega))
                  rw [HVX.out] at this
                  simpa using this
                repeat (go_big_quiet_step (first
                  | (go_at_call 27; exact sep_calls (HMK.out _ (SepW.h _)))
                  | (go_at_call 28; exact sep_calls (HSK.out _ (SepW.h _)))))
                refine wpQuiet_nil ?_
                rintro wq ⟨⟨wqx, hs⟩, rfl⟩
                clear ylk hne0
                go_wp2
                go_roundw
                case rel => exact ⟨q + 1, by omega, by go_num, hs⟩
                case measure => simp [intOf]; omega
            · obtain rfl : Rn = q := by omega
              have HSX := Lib.hid hs.tail
              clear hs
              go_wp2
              go_roundw
              case rel => exact ⟨k + 1, cn2, M2, C2, by omega, by go_num, by omega, HCM2.out, HSC2.out, HSX.out⟩
              case measure => simp [intOf]; omega
        · have HCP := Lib.hid (YPre0 HS6.out 2 3 rfl rfl (rx : Int) (by omega))
          clear HS6
          go_wp2_with (go_at_call 31; refine (HCP.out).mono ?_; rintro e w6 ⟨rfl, hs⟩; have HS7 := Lib.hid hs; clear hs HCP)
          obtain ⟨C2, hC2⟩ : ∃ C2, C = C2 := ⟨_, rfl⟩
          obtain ⟨M2, hM2⟩ : ∃ M2, M = M2 := ⟨_, rfl⟩
          have HCM2 := Lib.hid (show ColM M2 C2 from by rw [← hC2, ← hM2]; exact HCM.out)
          have HSC2 := Lib.hid (show ∀ x, C2.sc x = false from by rw [← hC2]; exact HSC.out)
          have hsi := HS7.out
          try simp only [List.set_cons_zero, List.set_cons_succ] at hsi
          rw [hC2] at hsi
          rw [hM2] at hsi
          obtain ⟨cn2, hcn2, hcn2l⟩ : ∃ c, cn = c ∧ c ≤ cn := ⟨_, rfl, by omega⟩
          rw [hcn2] at hsi
          clear hcn2
          have HSI := Lib.hid (show Sep w _ (blkR T5 50 #[.int .u8 d0, .int .u8 d1, .int .u8 d2, .int .u8 d3] :: mapR Try.prog 35 36 3 .i64 .i64 mi (cn2) (M2) :: yuaR bb m :: markR m a 2049 (C2) :: arenaR a A :: rowR 36 1 (.slice (some ⟨g, 0, none⟩) Rn capl) Rn (nums rs) :: adjR Try.prog 36 36 b (ptsOf fs) :: blkR T 25 #[.slice A0 n0 c0, .slice A1 n1 c1] :: []) from hsi)
          clear hsi hC2 hM2 HS7
          go_loopw [122] (fun i wr => ∃ (q : Nat), q ≤ Rn ∧ i = .int .i64 q ∧ Sep w wr (blkR T5 50 #[.int .u8 d0, .int .u8 d1, .int .u8 d2, .int .u8 d3] :: mapR Try.prog 35 36 3 .i64 .i64 mi (cn2) (M2) :: yuaR bb m :: markR m a 2049 (C2) :: arenaR a A :: rowR 36 1 (.slice (some ⟨g, 0, none⟩) Rn capl) Rn (nums rs) :: adjR Try.prog 36 36 b (ptsOf fs) :: blkR T 25 #[.slice A0 n0 c0, .slice A1 n1 c1] :: [])) (fun i _ => Rn + 1 - (intOf i).toNat)
          case atStart => exact ⟨0, by omega, rfl, HSI.out⟩
          case round =>
            clear HSI
            obtain ⟨q, hk, rfl, hs⟩ := hrel
            by_cases hltq : q < Rn
            · have hltJ : (q : Int) < (Rn : Int) := by omega
              obtain ⟨xr, hx⟩ : ∃ z_, rs[q]? = some z_ := ⟨_, List.getElem?_eq_getElem (by rw [HRN.out]; exact hltq)⟩
              have cx := hs.rowCell 5 rfl q _ (nums_get _ _ _ hx)
              have hx2 := HGR.out.lt (List.mem_of_getElem? hx)
              have HSB := Lib.hid hs
              have hmk := fun W (S : Sep w W (blkR T5 50 #[.int .u8 d0, .int .u8 d1, .int .u8 d2, .int .u8 d3] :: mapR Try.prog 35 36 3 .i64 .i64 mi (cn2) (M2) :: yuaR bb m :: markR m a 2049 (C2) :: arenaR a A :: rowR 36 1 (.slice (some ⟨g, 0, none⟩) Rn capl) Rn (nums rs) :: adjR Try.prog 36 36 b (ptsOf fs) :: blkR T 25 #[.slice A0 n0 c0, .slice A1 n1 c1] :: [])) => KMarked S 3 rfl xr hx2.2
              have hsc := fun W (S : Sep w W (blkR T5 50 #[.int .u8 d0, .int .u8 d1, .int .u8 d2, .int .u8 d3] :: mapR Try.prog 35 36 3 .i64 .i64 mi (cn2) (M2) :: yuaR bb m :: markR m a 2049 (C2) :: arenaR a A :: rowR 36 1 (.slice (some ⟨g, 0, none⟩) Rn capl) Rn (nums rs) :: adjR Try.prog 36 36 b (ptsOf fs) :: blkR T 25 #[.slice A0 n0 c0, .slice A1 n1 c1] :: [])) => KScanned S 3 rfl xr hx2.2
              rw [HSC2.out xr] at hsc
              have hvx := HCM2.out xr
              unfold colN at hvx
              rw [HSC2.out xr] at hvx
              simp only [Bool.false_eq_true, if_false] at hvx
              obtain ⟨b, hb⟩ : ∃ b, C2.mz xr = b := ⟨_, rfl⟩
              rw [hb] at hmk hvx
              clear hs hx hb
              cases b
              · have HMK := Lib.hid (show ∀ W, Sep w W (blkR T5 50 #[.int .u8 d0, .int .u8 d1, .int .u8 d2, .int .u8 d3] :: mapR Try.prog 35 36 3 .i64 .i64 mi (cn2) (M2) :: yuaR bb m :: markR m a 2049 (C2) :: arenaR a A :: rowR 36 1 (.slice (some ⟨g, 0, none⟩) Rn capl) Rn (nums rs) :: adjR Try.prog 36 36 b (ptsOf fs) :: blkR T 25 #[.slice A0 n0 c0, .slice A1 n1 c1] :: []) → _ from hmk)
                have HSK := Lib.hid (show ∀ W, Sep w W (blkR T5 50 #[.int .u8 d0, .int .u8 d1, .int .u8 d2, .int .u8 d3] :: mapR Try.prog 35 36 3 .i64 .i64 mi (cn2) (M2) :: yuaR bb m :: markR m a 2049 (C2) :: arenaR a A :: rowR 36 1 (.slice (some ⟨g, 0, none⟩) Rn capl) Rn (nums rs) :: adjR Try.prog 36 36 b (ptsOf fs) :: blkR T 25 #[.slice A0 n0 c0, .slice A1 n1 c1] :: []) → _ from hsc)
                have HVX := Lib.hid hvx
                clear hmk hsc hvx
                go_wp2
                refine region_sep HSB.out (by kernel_rfl) (by kernel_rfl) ?_
                intro hne0
                have ylk : ∀ x : SepW w (blkR T5 50 #[.int .u8 d0, .int .u8 d1, .int .u8 d2, .int .u8 d3] :: mapR Try.prog 35 36 3 .i64 .i64 mi (cn2) (M2) :: yuaR bb m :: markR m a 2049 (C2) :: arenaR a A :: rowR 36 1 (.slice (some ⟨g, 0, none⟩) Rn capl) Rn (nums rs) :: adjR Try.prog 36 36 b (ptsOf fs) :: blkR T 25 #[.slice A0 n0 c0, .slice A1 n1 c1] :: []), (Instr.lookup 35 (.map (some mi)) (.int .i64 (xr : Int)) false).run Try.prog x.w' = .ok (.int .i64 0) x.w' := fun x => by
                  have := map_get refIntOk x.h 1 rfl (wfx (x := xr) (by omega))
                  rw [HVX.out] at this
                  simpa using this
                repeat (go_big_quiet_step (first
                  | (go_at_call 27; exact sep_calls (HMK.out _ (SepW.h _)))
                  | (go_at_call 28; exact sep_calls (HSK.out _ (SepW.h _)))))
                refine wpQuiet_nil ?_
                rintro wq ⟨⟨wqx, hs⟩, rfl⟩
                clear ylk hne0
                go_wp2
                go_roundw
                case rel => exact ⟨q + 1, by omega, by go_num, hs⟩
                case measure => simp [intOf]; omega
              · have HMK := Lib.hid (show ∀ W, Sep w W (blkR T5 50 #[.int .u8 d0, .int .u8 d1, .int .u8 d2, .int .u8 d3] :: mapR Try.prog 35 36 3 .i64 .i64 mi (cn2) (M2) :: yuaR bb m :: markR m a 2049 (C2) :: arenaR a A :: rowR 36 1 (.slice (some ⟨g, 0, none⟩) Rn capl) Rn (nums rs) :: adjR Try.prog 36 36 b (ptsOf fs) :: blkR T 25 #[.slice A0 n0 c0, .slice A1 n1 c1] :: []) → _ from hmk)
                have HSK := Lib.hid (show ∀ W, Sep w W (blkR T5 50 #[.int .u8 d0, .int .u8 d1, .int .u8 d2, .int .u8 d3] :: mapR Try.prog 35 36 3 .i64 .i64 mi (cn2) (M2) :: yuaR bb m :: markR m a 2049 (C2) :: arenaR a A :: rowR 36 1 (.slice (some ⟨g, 0, none⟩) Rn capl) Rn (nums rs) :: adjR Try.prog 36 36 b (ptsOf fs) :: blkR T 25 #[.slice A0 n0 c0, .slice A1 n1 c1] :: []) → _ from hsc)
                have HVX := Lib.hid hvx
                clear hmk hsc hvx
                go_wp2
                refine region_sep HSB.out (by kernel_rfl) (by kernel_rfl) ?_
                intro hne0
                have ylk : ∀ x : SepW w (blkR T5 50 #[.int .u8 d0, .int .u8 d1, .int .u8 d2, .int .u8 d3] :: mapR Try.prog 35 36 3 .i64 .i64 mi (cn2) (M2) :: yuaR bb m :: markR m a 2049 (C2) :: arenaR a A :: rowR 36 1 (.slice (some ⟨g, 0, none⟩) Rn capl) Rn (nums rs) :: adjR Try.prog 36 36 b (ptsOf fs) :: blkR T 25 #[.slice A0 n0 c0, .slice A1 n1 c1] :: []), (Instr.lookup 35 (.map (some mi)) (.int .i64 (xr : Int)) false).run Try.prog x.w' = .ok (.int .i64 1) x.w' := fun x => by
                  have := map_get refIntOk x.h 1 rfl (wfx (x := xr) (by omega))
                  rw [HVX.out] at this
                  simpa using this
                repeat (go_big_quiet_step (first
                  | (go_at_call 27; exact sep_calls (HMK.out _ (SepW.h _)))
                  | (go_at_call 28; exact sep_calls (HSK.out _ (SepW.h _)))))
                refine wpQuiet_nil ?_
                rintro wq ⟨⟨wqx, hs⟩, rfl⟩
                clear ylk hne0
                go_wp2
                go_roundw
                case rel => exact ⟨q + 1, by omega, by go_num, hs⟩
                case measure => simp [intOf]; omega
            · obtain rfl : Rn = q := by omega
              have HSX := Lib.hid hs.tail
              clear hs
              go_wp2
              go_roundw
              case rel => exact ⟨k + 1, cn2, M2, C2, by omega, by go_num, by omega, HCM2.out, HSC2.out, HSX.out⟩
              case measure => simp [intOf]; omega
      · obtain rfl : n2 = k := by omega
        have HSE := Lib.hid hs
        clear hs
        have HCC := Lib.hid (KCount HSE.out 2 rfl)
        go_wp2_with (first
          | (go_at_call 33; refine (HCC.out).mono ?_; rintro e w9 ⟨rfl, hs⟩; have HCD := Lib.hid (KCount hs 2 rfl); clear hs HCC HSE)
          | (go_at_call 34; refine (YRemark _ bb).mono ?_; rintro e w10 ⟨rfl, rfl⟩)
          | (go_at_call 35; refine (YReset _ bb).mono ?_; rintro e w11 ⟨rfl, rfl⟩)
          | (go_at_call 33; refine (HCD.out).mono ?_; rintro e w12 ⟨rfl, hs⟩; have HS9 := Lib.hid hs; clear hs HCD))
        go_ret
        exact ⟨rfl, HS9.out.below⟩
  · by_cases hsm : n0 ≤ 40 ∧ n1 ≤ 120
    · have HSD := Lib.hid (show (decide (n0 ≤ 40) && decide (n1 ≤ 120)) = true by rw [decide_eq_true hsm.1, decide_eq_true hsm.2]; rfl)
      have hgt : (40 : Int) < (n2 : Int) := by omega
      clear hsm hsmall
      go_wp2_with (first
        | (go_at_call 29; refine (fit14 _).mono ?_; rintro e w1 ⟨rfl, hC⟩; have hs1 := HS0.out.same hC; have p0 := (hs1.blk 0 rfl).cell 0; have p1 := (hs1.blk 0 rfl).cell 1; simp only [List.getElem?_toArray, List.getElem?_cons_zero, List.getElem?_cons_succ] at p0 p1; have HS1 := Lib.hid hs1; clear hC hs1 HS0)
        | (go_at_call 17; refine (Small11 _ A0 n0 c0 A1 n1 c1).mono ?_; rw [HSD.out]; rintro e w2 ⟨rfl, hC⟩; have HS2 := Lib.hid (HS1.out.same hC); clear hC HS1))
      go_ret
      exact ⟨rfl, HS2.out.below⟩
    · have HSD := Lib.hid (show (decide (n0 ≤ 40) && decide (n1 ≤ 120)) = false by
        rw [Bool.and_eq_false_iff]
        by_cases h : n0 ≤ 40
        · exact .inr (decide_eq_false fun h2 => hsm ⟨h, h2⟩)
        · exact .inl (decide_eq_false h))
      clear hsm hsmall
      go_wp2_with (first
        | (go_at_call 29; refine (fit14 _).mono ?_; rintro e w1 ⟨rfl, hC⟩; have hs1 := HS0.out.same hC; have p0 := (hs1.blk 0 rfl).cell 0; have p1 := (hs1.blk 0 rfl).cell 1; simp only [List.getElem?_toArray, List.getElem?_cons_zero, List.getElem?_cons_succ] at p0 p1; have HS1 := Lib.hid hs1; clear hC hs1 HS0)
        | (go_at_call 17; refine (Small11 _ A0 n0 c0 A1 n1 c1).mono ?_; rw [HSD.out]; rintro e w2 ⟨rfl, hC⟩; have HS2 := Lib.hid (HS1.out.same hC); clear hC HS1))
      go_ret
      exact ⟨rfl, HS2.out.below⟩
end Go.Proofs.Ytacebfocfpbkdaa
