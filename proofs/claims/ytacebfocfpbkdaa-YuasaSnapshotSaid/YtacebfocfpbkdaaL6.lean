/-
  Parts of the proof, joined: Yua, Fit14, Snap, ByteBits, Bits8, YuasaSnapshotW. Conditions: as each part says.
-/
import Derived.Test.YtacebfocfpbkdaaL5
import Derived.Test.YtacebfocfpbkdaaL1
import Derived.Laws.BitsAllLaws
import Derived.Test.YtacebfocfpbkdaaL4

/-
  The barrier of layer 14: what it holds, and a contract for each method. Conditions: as the theorem says.
-/
namespace Go.Proofs.Ytacebfocfpbkdaa
set_option linter.unusedVariables false
set_option linter.unusedSimpArgs false
open Go.RowKit Go.Shelf

def yuaR (b m : Nat) : Res := blkR b 87 #[.func (.func 20) #[.pointer (some ⟨m, 0, none⟩)] #[]]
section
variable {w0 w : World} {L : List Res} {m a n : Nat} {C : Col}
theorem YNew (S : Sep w0 w L) (m : Nat) : Calls Try.prog 30 #[.pointer (some ⟨m, 0, none⟩)] w fun e w' => ∃ b, e = .returned (.pointer (some ⟨b, 0, none⟩)) ∧ Sep w0 w' (yuaR b m :: L) := by
  have HS := Lib.hid (S.box #[.func (.func 20) #[.pointer (some ⟨m, 0, none⟩)] #[]] 87)
  have hmf : ∀ (fn : Fn) (first cap : Array Value) (w : World), (Instr.makeFunc fn first cap).run Try.prog w = .ok (.func fn first cap) w := fun _ _ _ _ => rfl
  clear S
  go_enter Try.func30, Try.ntmps30
  go_wp2
  go_ret
  exact ⟨w.heap.size, rfl, HS.out⟩
theorem YRemark (w : World) (b : Nat) : Calls Try.prog 34 #[.pointer (some ⟨b, 0, none⟩)] w fun e w' => e = .returned (.tuple #[]) ∧ w = w' := by
  go_enter Try.func34, Try.ntmps34
  go_wp2
  go_end0
  exact ⟨rfl, rfl⟩
theorem YReset (w : World) (b : Nat) : Calls Try.prog 35 #[.pointer (some ⟨b, 0, none⟩)] w fun e w' => e = .returned (.tuple #[]) ∧ w = w' := by
  go_enter Try.func35, Try.ntmps35
  go_wp2
  go_end0
  exact ⟨rfl, rfl⟩
theorem YRescans (w : World) (b : Nat) : Calls Try.prog 59 #[.pointer (some ⟨b, 0, none⟩)] w fun e w' => e = .returned (.bool false) ∧ w = w' := by
  go_enter Try.func59, Try.ntmps59
  go_wp2
  go_ret
  exact ⟨rfl, rfl⟩
theorem YPre {b : Nat} (S : Sep w0 w L) (i j : Nat) (hi : L[i]? = some (yuaR b m)) (hj : L[j]? = some (markR m a n C)) (src : Int) (old : Nat) (ho : old < n) :
    Calls Try.prog 31 #[.pointer (some ⟨b, 0, none⟩), .int .i64 src, .int .i64 (old : Int)] w fun e w' => e = .returned (.tuple #[]) ∧ Sep w0 w' (L.set j (markR m a n (C.shade0 old))) := by
  have c0 := (S.blk i (by simpa [yuaR] using hi)).cell 0
  simp only [List.getElem?_toArray, List.getElem?_cons_zero, List.getElem?_cons_succ] at c0
  have HC := Lib.hid (KShade0 S j hj old ho)
  clear S hi hj
  go_enter Try.func31, Try.ntmps31
  go_wp2_with (go_at_call 20; refine HC.out.mono ?_; rintro e w7 ⟨rfl, hs⟩; have HS := Lib.hid hs; clear hs HC)
  go_end0
  exact ⟨rfl, HS.out⟩
set_option maxRecDepth 100000 in
set_option maxHeartbeats 2000000 in
theorem YPost {b : Nat} (S : Sep w0 w L) (i j : Nat) (hi : L[i]? = some (yuaR b m)) (hij : i ≠ j) (hj : L[j]? = some (markR m a n C)) (src : Int) (old y : Nat) (black early : Bool) (ho : old < n) (hy : y < n) :
    Calls Try.prog 32 #[.pointer (some ⟨b, 0, none⟩), (.agg #[.int .i64 src, .int .i64 (old : Int), .int .i64 (y : Int), .bool black, .bool early])] w fun e w' => e = .returned (.tuple #[]) ∧ Sep w0 w' (L.set j (markR m a n (if early = true then (C.shade0 old).shade0 y else C.shade0 old))) := by
  obtain ⟨T, hT⟩ : ∃ T, w.heap.size = T := ⟨_, rfl⟩
  have hb := S.box #[.int .i64 src, .int .i64 (old : Int), .int .i64 (y : Int), .bool black, .bool early] 45
  rw [hT] at hb
  have HB := Lib.hid hb
  have HI1 := Lib.hid (show (blkR T 45 #[.int .i64 src, .int .i64 (old : Int), .int .i64 (y : Int), .bool black, .bool early] :: L)[i + 1]? = some (yuaR b m) by simpa using hi)
  have HJ1 := Lib.hid (show (blkR T 45 #[.int .i64 src, .int .i64 (old : Int), .int .i64 (y : Int), .bool black, .bool early] :: L)[j + 1]? = some (markR m a n C) by simpa using hj)
  have HI2 := Lib.hid (show ((blkR T 45 #[.int .i64 src, .int .i64 (old : Int), .int .i64 (y : Int), .bool black, .bool early] :: L).set (j + 1) (markR m a n (C.shade0 old)))[i + 1]? = some (yuaR b m) by rw [List.getElem?_set_ne (by omega)]; simpa using hi)
  have HJ2 := Lib.hid (show ((blkR T 45 #[.int .i64 src, .int .i64 (old : Int), .int .i64 (y : Int), .bool black, .bool early] :: L).set (j + 1) (markR m a n (C.shade0 old)))[j + 1]? = some (markR m a n (C.shade0 old)) by
    have := (List.getElem?_eq_some_iff.1 hj).1
    simp [this])
  have hro : Try.prog.follows .mixedOrders = true := by kernel_rfl
  clear S hi hj hb hij
  go_enter Try.func32, Try.ntmps32
  go_wp2
  obtain ⟨wd1, hwd1⟩ : ∃ wd, (w.alloc (.cells #[.int .i64 src, .int .i64 (old : Int), .int .i64 (y : Int), .bool black, .bool early] 45)).drew = wd := ⟨_, rfl⟩
  have hd := HB.out.drew
  rw [hwd1] at hd
  have x0 := (hd.blk (i + 1) (by have := HI1.out; unfold yuaR at this; exact this)).cell 0
  have x1 := (hd.blk 0 rfl).cell 1
  simp only [List.getElem?_toArray, List.getElem?_cons_zero, List.getElem?_cons_succ] at x0 x1
  try simp only [hT]
  have HS2 := Lib.hid hd
  clear hd HB
  refine wp_region_still_tail 6 (by kernel_rfl) (by kernel_rfl) ?_
  change wpStill _ _ (World.drew _) (fun a' => wpList _ _ _ _ a' (World.drew _)) _ _
  rw [hwd1]
  clear hwd1
  simp only [List.take_succ_cons, List.take_zero, List.drop_succ_cons, List.drop_zero]
  repeat still_step
  refine wpStill_nil ?_
  have HC := Lib.hid (KShade0 HS2.out (j + 1) HJ1.out old ho)
  clear HS2
  cases early
  · go_wp2_with (go_at_call 20; refine (HC.out).mono ?_; rintro e w7 ⟨rfl, hs⟩; clear x0 x1; have y1 := (hs.blk 0 rfl).cell 4; simp only [List.getElem?_toArray, List.getElem?_cons_zero, List.getElem?_cons_succ] at y1; have HS3 := Lib.hid hs; clear hs HC)
    go_end0
    exact ⟨rfl, HS3.out.tail⟩
  · go_wp2_with (go_at_call 20; refine (HC.out).mono ?_; rintro e w7 ⟨rfl, hs⟩; clear x0 x1; have y1 := (hs.blk 0 rfl).cell 4; simp only [List.getElem?_toArray, List.getElem?_cons_zero, List.getElem?_cons_succ] at y1; have HS3 := Lib.hid hs; clear hs HC)
    obtain ⟨wd2, hwd2⟩ : ∃ wd, (w7).drew = wd := ⟨_, rfl⟩
    have hd := HS3.out.drew
    rw [hwd2] at hd
    have x0 := (hd.blk (i + 1) (by have := HI2.out; unfold yuaR at this; exact this)).cell 0
    have x1 := (hd.blk 0 rfl).cell 2
    simp only [List.getElem?_toArray, List.getElem?_cons_zero, List.getElem?_cons_succ] at x0 x1
    have HS4 := Lib.hid hd
    clear hd HS3
    refine wp_region_still_tail 6 (by kernel_rfl) (by kernel_rfl) ?_
    change wpStill _ _ (World.drew _) (fun a' => wpList _ _ _ _ a' (World.drew _)) _ _
    rw [hwd2]
    clear hwd2
    simp only [List.take_succ_cons, List.take_zero, List.drop_succ_cons, List.drop_zero]
    repeat still_step
    refine wpStill_nil ?_
    have HC := Lib.hid (KShade0 HS4.out (j + 1) HJ2.out y hy)
    clear HS4
    go_wp2_with (go_at_call 20; refine (HC.out).mono ?_; rintro e w8 ⟨rfl, hs⟩; clear x0 x1; have HS5 := Lib.hid hs; clear hs HC)
    go_end0
    refine ⟨rfl, ?_⟩
    have h5 := HS5.out
    rw [List.set_set] at h5
    exact h5.tail
theorem YPre0 {b : Nat} (S : Sep w0 w L) (i j : Nat) (hi : L[i]? = some (yuaR b m)) (hj : L[j]? = some (markR m a n C)) (src : Int) (hn : 0 < n) :
    Calls Try.prog 31 #[.pointer (some ⟨b, 0, none⟩), .int .i64 src, .int .i64 0] w fun e w' => e = .returned (.tuple #[]) ∧ Sep w0 w' L := by
  have h := YPre S i j hi hj src 0 hn
  rw [shade0_zero, set_self hj] at h
  exact h
/-- Nothing was there. -/
theorem YPostNew {b : Nat} (S : Sep w0 w L) (i j : Nat) (hi : L[i]? = some (yuaR b m)) (hij : i ≠ j) (hj : L[j]? = some (markR m a n C)) (src : Int) (y : Nat) (black early : Bool) (hn : 0 < n) (hy : y < n) :
    Calls Try.prog 32 #[.pointer (some ⟨b, 0, none⟩), .agg #[.int .i64 src, .int .i64 0, .int .i64 (y : Int), .bool black, .bool early]] w fun e w' => e = .returned (.tuple #[]) ∧ Sep w0 w' (L.set j (markR m a n (if early = true then C.shade0 y else C))) := by
  have h := YPost S i j hi hij hj src 0 y black early hn hy
  rw [shade0_zero] at h
  exact h
/-- Nothing at all. -/
theorem YPostNil {b : Nat} (S : Sep w0 w L) (i j : Nat) (hi : L[i]? = some (yuaR b m)) (hij : i ≠ j) (hj : L[j]? = some (markR m a n C)) (src : Int) (black early : Bool) (hn : 0 < n) :
    Calls Try.prog 32 #[.pointer (some ⟨b, 0, none⟩), .agg #[.int .i64 src, .int .i64 0, .int .i64 0, .bool black, .bool early]] w fun e w' => e = .returned (.tuple #[]) ∧ Sep w0 w' L := by
  have h := YPostNew S i j hi hij hj src 0 black early hn hn
  rw [shade0_zero, ite_self, set_self hj] at h
  exact h
end
end Go.Proofs.Ytacebfocfpbkdaa

/-
  fit of layer 14. Conditions: as the theorem says.
-/
namespace Go.Proofs.Ytacebfocfpbkdaa
set_option linter.unusedVariables false
set_option linter.unusedSimpArgs false
open Go.RowKit Go.Shelf

set_option maxRecDepth 100000 in
set_option maxHeartbeats 4000000 in
theorem fit14 (w : World) : Calls Try.prog 29 #[] w fun e w' => e = .returned (.bool true) ∧ Chg [] w w' := by
  obtain ⟨W, hW⟩ : ∃ W, w.alloc (.cells #[.int .u8 2, .int .u8 2, .int .u8 2] 5) = W := ⟨_, rfl⟩
  have hz := twos w 3 [.int .u8 2, .int .u8 2, .int .u8 2] rfl
  simp only [List.toArray] at hz
  have hch := (Chg.refl [] w).alloc (.cells #[.int .u8 2, .int .u8 2, .int .u8 2] 5)
  rw [hW] at hch
  have hz' : ArgI W (some ⟨w.heap.size, 0, none⟩) 3 [.u8] (fun _ _ => 2) := by rw [← hW]; exact hz
  have HZ := Lib.hid hz'
  have HCH := Lib.hid hch
  have HMD := Lib.hid (Made11 (some ⟨w.heap.size, 0, none⟩) 3 3 (fun _ _ => 2) none 0 0 (fun _ _ => 0) hz' (argI_none W _) (by omega) (by omega) (Sep.start W))
  have hro : Try.prog.follows .mixedOrders = true := by kernel_rfl
  clear hz hz' hch
  go_enter Try.func29, Try.ntmps29
  go_wp2_with (first
    | (go_at_call 18; refine (HMD.out).mono ?_; rintro e w3 ⟨a, b, v, A, rs, fs, rfl, hgr, hlen, hs⟩; obtain ⟨x, y, z, rfl⟩ : ∃ x y z, rs = [x, y, z] := (by match rs, hlen with | [x, y, z], _ => exact ⟨x, y, z, rfl⟩); have HGR := Lib.hid hgr; obtain ⟨g, capl, hv, _, _⟩ := hs.rowSome 1 rfl (by simp); rw [hv] at hs ⊢; have HS3 := Lib.hid hs; clear hs hgr hlen hv HMD)
    | (go_at_call 19; refine (KNew HS3.out 0 rfl HGR.out.size (by omega) 4 (by omega)).mono ?_; rintro e w4 ⟨m, rfl, hs⟩; have HC := Lib.hid (YNew hs m); clear hs HS3)
    | (go_at_call 30; refine (HC.out).mono ?_; rintro e w5 ⟨bb, rfl, hs⟩; have HS5 := Lib.hid (show Sep W w5 (yuaR bb m :: markR m a 2049 (Col.white) :: arenaR a A :: rowR 36 1 (.slice (some ⟨g, 0, none⟩) 3 capl) 3 (nums [x, y, z]) :: adjR Try.prog 36 36 b (ptsOf fs) :: []) from hs); clear hs HC))
  have HXL := Lib.hid (HGR.out.lt (x := x) (by simp))
  have HYL := Lib.hid (HGR.out.lt (x := y) (by simp))
  have HZL := Lib.hid (HGR.out.lt (x := z) (by simp))
  have HND := Lib.hid (show y ≠ x ∧ z ≠ x ∧ z ≠ y from by
    have := HGR.out.nodup
    simp only [List.nodup_cons, List.mem_cons, List.mem_nil_iff, or_false, not_or] at this
    exact ⟨fun e => this.1.1 e.symm, fun e => this.1.2 e.symm, fun e => this.2.1 e.symm⟩)
  obtain ⟨wd1, hwd1⟩ : ∃ wd, (w5).drew = wd := ⟨_, rfl⟩
  have hd := HS5.out.drew
  rw [hwd1] at hd
  have x0 := hd.rowCell 3 rfl 0 _ (nums_get [x, y, z] 0 x rfl); have x1 := hd.rowCell 3 rfl 1 _ (nums_get [x, y, z] 1 y rfl); have x2 := hd.rowCell 3 rfl 2 _ (nums_get [x, y, z] 2 z rfl)
  have HS6 := Lib.hid hd
  clear hd HS5
  refine wp_region_still_tail 7 (by kernel_rfl) (by kernel_rfl) ?_
  change wpStill _ _ (World.drew _) (fun a' => wpList _ _ _ _ a' (World.drew _)) _ _
  rw [hwd1]
  clear hwd1
  simp only [List.take_succ_cons, List.take_zero, List.drop_succ_cons, List.drop_zero]
  repeat still_step
  refine wpStill_nil ?_
  have HCP := Lib.hid (YPre HS6.out 0 1 rfl rfl (x : Int) y HYL.out.2)
  clear x0 x1 x2
  go_wp2_with (go_at_call 31; refine (HCP.out).mono ?_; rintro e w6 ⟨rfl, hs⟩; have HS7 := Lib.hid hs; clear hs HCP HS6)
  have HS7' := HS7
  obtain ⟨wd2, hwd2⟩ : ∃ wd, (w6).drew = wd := ⟨_, rfl⟩
  have hd := HS7.out.drew
  rw [hwd2] at hd
  have x0 := hd.rowCell 3 rfl 0 _ (nums_get [x, y, z] 0 x rfl); have x1 := hd.rowCell 3 rfl 1 _ (nums_get [x, y, z] 1 y rfl); have x2 := hd.rowCell 3 rfl 2 _ (nums_get [x, y, z] 2 z rfl)
  have HS8 := Lib.hid hd
  clear hd HS7
  refine wp_region_still_tail 11 (by kernel_rfl) (by kernel_rfl) ?_
  change wpStill _ _ (World.drew _) (fun a' => wpList _ _ _ _ a' (World.drew _)) _ _
  rw [hwd2]
  clear hwd2
  simp only [List.take_succ_cons, List.take_zero, List.drop_succ_cons, List.drop_zero]
  repeat still_step
  refine wpStill_nil ?_
  have HCQ := Lib.hid (YPost HS8.out 0 1 rfl (by decide) rfl (x : Int) y z false false HYL.out.2 HZL.out.2)
  clear x0 x1 x2 HS7'
  go_wp2_with (first
    | (go_at_call 32; refine (HCQ.out).mono ?_; rintro e w7 ⟨rfl, hs⟩; simp only [Bool.false_eq_true, if_false] at hs; have x0 := hs.rowCell 3 rfl 0 _ (nums_get [x, y, z] 0 x rfl); have x1 := hs.rowCell 3 rfl 1 _ (nums_get [x, y, z] 1 y rfl); have x2 := hs.rowCell 3 rfl 2 _ (nums_get [x, y, z] 2 z rfl); have HS9 := Lib.hid hs; clear hs HCQ HS8)
    | (go_at_call 59; refine (YRescans _ bb).mono ?_; rintro e w8 ⟨rfl, rfl⟩; have HM1 := Lib.hid (KMarked HS9.out 1 rfl y HYL.out.2))
    | (go_at_call 27; refine (HM1.out).mono ?_; rw [show ((Col.white.shade0 y).shade0 y).mz y = true by simp [shade0_mz, Nat.pos_iff_ne_zero.1 HYL.out.1]]; rintro e w9 ⟨rfl, hs⟩; have x0 := hs.rowCell 3 rfl 0 _ (nums_get [x, y, z] 0 x rfl); have x1 := hs.rowCell 3 rfl 1 _ (nums_get [x, y, z] 1 y rfl); have x2 := hs.rowCell 3 rfl 2 _ (nums_get [x, y, z] 2 z rfl); have HM2 := Lib.hid (KMarked hs 1 rfl x HXL.out.2); clear hs HM1)
    | (go_at_call 27; refine (HM2.out).mono ?_; rw [show ((Col.white.shade0 y).shade0 y).mz x = false by simp [shade0_mz, Col.white, HND.out.1.symm]]; rintro e w10 ⟨rfl, hs⟩; have x0 := hs.rowCell 3 rfl 0 _ (nums_get [x, y, z] 0 x rfl); have x1 := hs.rowCell 3 rfl 1 _ (nums_get [x, y, z] 1 y rfl); have x2 := hs.rowCell 3 rfl 2 _ (nums_get [x, y, z] 2 z rfl); have HM3 := Lib.hid (KMarked hs 1 rfl z HZL.out.2); clear hs HM2)
    | (go_at_call 27; refine (HM3.out).mono ?_; rw [show ((Col.white.shade0 y).shade0 y).mz z = false by simp [shade0_mz, Col.white, HND.out.2.2]]; rintro e w11 ⟨rfl, hs⟩; have HS10 := Lib.hid hs; clear hs HM3))
  go_ret
  exact ⟨rfl, HCH.out.trans HS10.out.chg (by simp)⟩
end Go.Proofs.Ytacebfocfpbkdaa

/-
  The snapshot at the beginning (layer 14): what is reachable then, and not marked, stays within reach of what is grey, on a way of unmarked objects. Conditions: as each theorem says; no walk.
-/
namespace Go.Proofs.Ytacebfocfpbkdaa
set_option linter.unusedVariables false
set_option linter.unusedSimpArgs false

/-- A way from a grey one over unmarked ones leads there. -/
inductive WR (pts : Nat → List Nat) (C : Col) : Nat → Prop
  | start {g x : Nat} (hg : C.grey g = true) (hx : x ∈ pts g) (hm : C.mz x = false) : WR pts C x
  | step {y x : Nat} (h : WR pts C y) (hx : x ∈ pts y) (hm : C.mz x = false) : WR pts C x
/-- Marked, or within reach so. -/
def Held (pts : Nat → List Nat) (C : Col) (x : Nat) : Prop := C.mz x = true ∨ WR pts C x
def Col.Subs (C : Col) : Prop := ∀ x, C.sc x = true → C.mz x = true

section
variable {pts pts' : Nat → List Nat} {C C' : Col} {x : Nat}
theorem WR.white (h : WR pts C x) : C.mz x = false := by cases h <;> assumption
/-- Some become grey, the white ones of where a way passes too; what was grey stays so, but for one whose fields are all marked now. -/
theorem Held.more (hs : Col.Subs C) (hm : ∀ x, C.mz x = true → C'.mz x = true) (hg : ∀ x, C'.mz x = true → C.mz x = false → C'.grey x = true)
    (hk : ∀ g, C.grey g = true → C'.grey g = true ∨ ∀ y ∈ pts g, C'.mz y = true) : ∀ x, Held pts C x → Held pts C' x := by
  rintro x (h | h)
  · exact .inl (hm x h)
  · induction h with
    | @start g x h1 h2 h3 =>
      cases e : C'.mz x with
      | true => exact .inl e
      | false =>
        rcases hk g h1 with h4 | h4
        · exact .inr (.start h4 h2 e)
        · rw [h4 x h2] at e; cases e
    | @step y x h1 h2 h3 ih =>
      cases e : C'.mz x with
      | true => exact .inl e
      | false =>
        rcases ih with h4 | h4
        · exact .inr (.start (hg y h4 h1.white) h2 e)
        · exact .inr (.step h4 h2 e)
theorem Held.shade0 (hs : Col.Subs C) (r : Nat) : ∀ x, Held pts C x → Held pts (C.shade0 r) x := by
  refine Held.more hs (fun x hx => by rw [shade0_mz, hx]; rfl) (fun x hx hw => ?_) (fun g hg => .inl ?_)
  · refine grey_iff.2 ⟨hx, ?_⟩
    rw [shade0_sc]
    cases e : C.sc x with
    | false => rfl
    | true => rw [hs x e] at hw; cases hw
  · obtain ⟨h1, h2⟩ := grey_iff.1 hg
    exact grey_iff.2 ⟨by rw [shade0_mz, h1]; rfl, by rw [shade0_sc]; exact h2⟩
theorem Col.Subs.shade0 (hs : Col.Subs C) (r : Nat) : Col.Subs (C.shade0 r) := fun x hx => by
  rw [shade0_sc] at hx
  rw [shade0_mz, hs x hx]
  rfl
theorem Col.Subs.scan (hs : Col.Subs C) {r : Nat} (hr : C.mz r = true) (l : List Nat) : Col.Subs ((C.scan r).shades l) := fun x hx => by
  rw [shades_sc] at hx
  rw [shades_mz]
  have hx' : (C.sc x || decide (x = r)) = true := hx
  simp only [Bool.or_eq_true, decide_eq_true_eq] at hx'
  show (C.mz x || _) = true
  rcases hx' with h | rfl
  · rw [hs x h]; rfl
  · rw [hr]; rfl
theorem Held.scan (hs : Col.Subs C) {r : Nat} (hr : C.grey r = true) : ∀ x, Held pts C x → Held pts ((C.scan r).shades (pts r)) x := by
  have hrm := (grey_iff.1 hr).1
  refine Held.more hs (fun x hx => ?_) (fun x hx hw => ?_) (fun g hg => ?_)
  · rw [shades_mz]
    show (C.mz x || _) = true
    rw [hx]; rfl
  · refine grey_iff.2 ⟨hx, ?_⟩
    rw [shades_sc]
    show (C.sc x || decide (x = r)) = false
    rw [Bool.or_eq_false_iff]
    refine ⟨?_, decide_eq_false fun e => ?_⟩
    · cases e : C.sc x with
      | false => rfl
      | true => rw [hs x e] at hw; cases hw
    · subst e; rw [hrm] at hw; cases hw
  · by_cases e : g = r
    · subst e
      right
      intro y hy
      rw [shades_mz]
      simp [hy]
    · left
      obtain ⟨h1, h2⟩ := grey_iff.1 hg
      refine grey_iff.2 ⟨?_, ?_⟩
      · rw [shades_mz]
        show (C.mz g || _) = true
        rw [h1]; rfl
      · rw [shades_sc]
        show (C.sc g || decide (g = r)) = false
        rw [h2]; simp [e]
theorem Held.steps {d : Nat} (h : Steps pts d C C') : Col.Subs C → Col.Subs C' ∧ ∀ x, Held pts C x → Held pts C' x := by
  induction h with
  | zero => exact fun h => ⟨h, fun _ h => h⟩
  | @succ d C C1 r hst hg ih =>
    intro hs
    obtain ⟨h1, h2⟩ := ih hs
    exact ⟨h1.scan (grey_iff.1 hg).1 _, fun x hx => Held.scan h1 hg x (h2 x hx)⟩
/-- Where they point changes, but for what is unmarked. -/
theorem Held.write (h : ∀ z, ∀ u ∈ pts z, C.mz u = false → u ∈ pts' z) : ∀ x, Held pts C x → Held pts' C x := by
  rintro x (hx | hx)
  · exact .inl hx
  · right
    induction hx with
    | start h1 h2 h3 => exact .start h1 (h _ _ h2 h3) h3
    | step h1 h2 h3 ih => exact .step ih (h _ _ h2 h3) h3
theorem held_start {R : Nat → Prop} (hR : ∀ x, R x → C.mz x = true) (hs : ∀ x, C.sc x = false) : ∀ x, Leads pts R x → Held pts C x := by
  intro x h
  induction h with
  | base h => exact .inl (hR _ h)
  | @step y x h1 h2 ih =>
    cases e : C.mz x with
    | true => exact .inl e
    | false =>
      rcases ih with h3 | h3
      · exact .inr (.start (grey_iff.2 ⟨h3, hs y⟩) h2 e)
      · exact .inr (.step h3 h2 e)
theorem Held.end_ (hno : ∀ x, C.grey x = false) (h : Held pts C x) : C.mz x = true := by
  rcases h with h | h
  · exact h
  · exfalso
    induction h with
    | start h1 _ _ => rw [hno] at h1; cases h1
    | step _ _ _ ih => exact ih
end
end Go.Proofs.Ytacebfocfpbkdaa

/-
  The bits of a byte, as the walk spells them. Conditions: numbers between 0 and 255.
-/
namespace Go.Proofs.Ytacebfocfpbkdaa
open Go.RowKit

/-- Bit t of x. -/
def bitZ (x t : Int) : Bool := bits .and .u8 (x / 2 ^ t.toNat) 1 == 1

theorem bit_nat (x t : Nat) (hx : x < 256) : bitZ (x : Int) (t : Int) = x.testBit t := by
  have hd : x / 2 ^ t < 256 := Nat.lt_of_le_of_lt (Nat.div_le_self _ _) hx
  unfold bitZ
  rw [Int.toNat_natCast]
  have h1 : ((x : Int) / 2 ^ t) = ((x / 2 ^ t : Nat) : Int) := by simp
  rw [h1]
  have h2 := u8_and_nat (x / 2 ^ t) 1 hd (by omega)
  rw [show ((1 : Nat) : Int) = 1 from rfl] at h2
  rw [h2, Nat.and_one_is_mod, Nat.testBit_eq_decide_div_mod_eq]
  rw [Bool.eq_iff_iff]
  simp
  omega

theorem byte_nat {x : Int} (h0 : 0 ≤ x) (h1 : x ≤ 255) : ∃ n : Nat, x = n ∧ n < 256 := ⟨x.toNat, by omega, by omega⟩

theorem bit_and {x y t : Int} (hx0 : 0 ≤ x) (hx1 : x ≤ 255) (hy0 : 0 ≤ y) (hy1 : y ≤ 255) (ht : 0 ≤ t) : bitZ (bits .and .u8 x y) t = (bitZ x t && bitZ y t) := by
  obtain ⟨a, rfl, ha⟩ := byte_nat hx0 hx1
  obtain ⟨b, rfl, hb⟩ := byte_nat hy0 hy1
  obtain ⟨k, rfl⟩ := Int.eq_ofNat_of_zero_le ht
  rw [u8_and_nat a b ha hb, bit_nat _ _ (Nat.lt_of_le_of_lt Nat.and_le_left ha), bit_nat _ _ ha, bit_nat _ _ hb, Nat.testBit_and]

theorem or_lt {a b : Nat} (ha : a < 256) (hb : b < 256) : a ||| b < 256 := Nat.or_lt_two_pow (n := 8) ha hb

theorem bit_or {x y t : Int} (hx0 : 0 ≤ x) (hx1 : x ≤ 255) (hy0 : 0 ≤ y) (hy1 : y ≤ 255) (ht : 0 ≤ t) : bitZ (bits .or .u8 x y) t = (bitZ x t || bitZ y t) := by
  obtain ⟨a, rfl, ha⟩ := byte_nat hx0 hx1
  obtain ⟨b, rfl, hb⟩ := byte_nat hy0 hy1
  obtain ⟨k, rfl⟩ := Int.eq_ofNat_of_zero_le ht
  rw [u8_or_nat a b ha hb, bit_nat _ _ (or_lt ha hb), bit_nat _ _ ha, bit_nat _ _ hb, Nat.testBit_or]

theorem and_byte {x y : Int} (hx0 : 0 ≤ x) (hx1 : x ≤ 255) (hy0 : 0 ≤ y) (hy1 : y ≤ 255) : 0 ≤ bits .and .u8 x y ∧ bits .and .u8 x y ≤ 255 := by
  obtain ⟨a, rfl, ha⟩ := byte_nat hx0 hx1
  obtain ⟨b, rfl, hb⟩ := byte_nat hy0 hy1
  rw [u8_and_nat a b ha hb]
  have : a &&& b ≤ a := Nat.and_le_left
  omega

theorem or_byte {x y : Int} (hx0 : 0 ≤ x) (hx1 : x ≤ 255) (hy0 : 0 ≤ y) (hy1 : y ≤ 255) : 0 ≤ bits .or .u8 x y ∧ bits .or .u8 x y ≤ 255 := by
  obtain ⟨a, rfl, ha⟩ := byte_nat hx0 hx1
  obtain ⟨b, rfl, hb⟩ := byte_nat hy0 hy1
  rw [u8_or_nat a b ha hb]
  have := or_lt ha hb
  omega

theorem bit_0 (x : Int) : (bits .and .u8 x 1 == 1) = bitZ x 0 := by unfold bitZ; simp
theorem bit_1 (x : Int) : (bits .and .u8 (x / 2) 1 == 1) = bitZ x 1 := rfl
theorem bit_2 (x : Int) : (bits .and .u8 (x / 4) 1 == 1) = bitZ x 2 := rfl
theorem bit_3 (x : Int) : (bits .and .u8 (x / 8) 1 == 1) = bitZ x 3 := rfl

theorem bit_zero (x : Int) (t : Nat) (h0 : 0 ≤ x) (h1 : x ≤ 255) : (bits .and .u8 (x / 2 ^ t) 1 == 0) = !bitZ x t := by
  obtain ⟨a, rfl, ha⟩ := byte_nat h0 h1
  have hd : a / 2 ^ t < 256 := Nat.lt_of_le_of_lt (Nat.div_le_self _ _) ha
  have e : ((a : Int) / 2 ^ t) = ((a / 2 ^ t : Nat) : Int) := by simp
  have h2 := u8_and_nat (a / 2 ^ t) 1 hd (by omega)
  rw [show ((1 : Nat) : Int) = 1 from rfl] at h2
  unfold bitZ
  rw [Int.toNat_natCast, e, h2, Nat.and_one_is_mod]
  rw [Bool.eq_iff_iff]
  simp
  omega
theorem bitz_0 (x : Int) (h0 : 0 ≤ x) (h1 : x ≤ 255) : (bits .and .u8 x 1 == 0) = !bitZ x 0 := by simpa using bit_zero x 0 h0 h1
theorem bitz_1 (x : Int) (h0 : 0 ≤ x) (h1 : x ≤ 255) : (bits .and .u8 (x / 2) 1 == 0) = !bitZ x 1 := bit_zero x 1 h0 h1
theorem bitz_2 (x : Int) (h0 : 0 ≤ x) (h1 : x ≤ 255) : (bits .and .u8 (x / 4) 1 == 0) = !bitZ x 2 := bit_zero x 2 h0 h1
theorem bitz_3 (x : Int) (h0 : 0 ≤ x) (h1 : x ≤ 255) : (bits .and .u8 (x / 8) 1 == 0) = !bitZ x 3 := bit_zero x 3 h0 h1

end Go.Proofs.Ytacebfocfpbkdaa

/-
  Masks of a byte. Conditions: numbers between 0 and 255.
-/
namespace Go.Proofs.Ytacebfocfpbkdaa
set_option linter.unusedVariables false
open Go.RowKit

theorem and8_of {x : Int} (h : 0 ≤ x ∧ x ≤ 255) (m : Nat) (hm : m < 256) (f : Nat → Nat) (hf : ∀ n : Nat, n < 256 → n &&& m = f n) : bits .and .u8 x (m : Int) = (f x.toNat : Int) := by
  obtain ⟨n, rfl, hn⟩ := byte_nat h.1 h.2
  rw [u8_and_nat n m hn hm, hf n hn]
  simp
set_option maxRecDepth 10000 in
theorem and8_1 {x : Int} (h : 0 ≤ x ∧ x ≤ 255) : bits .and .u8 x 1 = x % 2 := by
  have := and8_of h 1 (by decide) (fun n => n % 2) (fun n _ => Nat.and_two_pow_sub_one_eq_mod n 1)
  rw [show ((1 : Nat) : Int) = 1 from rfl] at this
  rw [this]; omega
theorem and8_3 {x : Int} (h : 0 ≤ x ∧ x ≤ 255) : bits .and .u8 x 3 = x % 4 := by
  have := and8_of h 3 (by decide) (fun n => n % 4) (fun n _ => Nat.and_two_pow_sub_one_eq_mod n 2)
  rw [show ((3 : Nat) : Int) = 3 from rfl] at this
  rw [this]; omega
theorem and8_7 {x : Int} (h : 0 ≤ x ∧ x ≤ 255) : bits .and .u8 x 7 = x % 8 := by
  have := and8_of h 7 (by decide) (fun n => n % 8) (fun n _ => Nat.and_two_pow_sub_one_eq_mod n 3)
  rw [show ((7 : Nat) : Int) = 7 from rfl] at this
  rw [this]; omega
theorem and8_15 {x : Int} (h : 0 ≤ x ∧ x ≤ 255) : bits .and .u8 x 15 = x % 16 := by
  have := and8_of h 15 (by decide) (fun n => n % 16) (fun n _ => Nat.and_two_pow_sub_one_eq_mod n 4)
  rw [show ((15 : Nat) : Int) = 15 from rfl] at this
  rw [this]; omega
theorem all256 {p : Nat → Prop} [DecidablePred p] (h : (List.range 256).all (fun n => decide (p n)) = true) : ∀ n : Nat, n < 256 → p n := by
  intro n hn
  have := List.all_eq_true.1 h n (List.mem_range.2 hn)
  exact of_decide_eq_true this
theorem and8_4 {x : Int} (h : 0 ≤ x ∧ x ≤ 255) : bits .and .u8 x 4 = 4 * (x / 4 % 2) := by
  have := and8_of h 4 (by decide) (fun n => 4 * (n / 4 % 2)) (all256 (by decide +kernel))
  rw [show ((4 : Nat) : Int) = 4 from rfl] at this
  rw [this]; omega
theorem and8_8 {x : Int} (h : 0 ≤ x ∧ x ≤ 255) : bits .and .u8 x 8 = 8 * (x / 8 % 2) := by
  have := and8_of h 8 (by decide) (fun n => 8 * (n / 8 % 2)) (all256 (by decide +kernel))
  rw [show ((8 : Nat) : Int) = 8 from rfl] at this
  rw [this]; omega
theorem and8_16 {x : Int} (h : 0 ≤ x ∧ x ≤ 255) : bits .and .u8 x 16 = 16 * (x / 16 % 2) := by
  have := and8_of h 16 (by decide) (fun n => 16 * (n / 16 % 2)) (all256 (by decide +kernel))
  rw [show ((16 : Nat) : Int) = 16 from rfl] at this
  rw [this]; omega
theorem and8_12 {x : Int} (h : 0 ≤ x ∧ x ≤ 255) : bits .and .u8 x 12 = 4 * (x / 4 % 4) := by
  have := and8_of h 12 (by decide) (fun n => 4 * (n / 4 % 4)) (all256 (by decide +kernel))
  rw [show ((12 : Nat) : Int) = 12 from rfl] at this
  rw [this]; omega
theorem and8_24 {x : Int} (h : 0 ≤ x ∧ x ≤ 255) : bits .and .u8 x 24 = 8 * (x / 8 % 4) := by
  have := and8_of h 24 (by decide) (fun n => 8 * (n / 8 % 4)) (all256 (by decide +kernel))
  rw [show ((24 : Nat) : Int) = 24 from rfl] at this
  rw [this]; omega
end Go.Proofs.Ytacebfocfpbkdaa

/-
  The walk of YuasaSnapshot. Conditions: as the theorem says.
-/
namespace Go.Proofs.Ytacebfocfpbkdaa
set_option linter.unusedVariables false
set_option linter.unusedSimpArgs false
open Go.RowKit Go.Shelf

def SnapJ (w0 : World) (rs : List Nat) (pts : Nat → List Nat) (P : Nat → Prop) (R : Col → List Res) (w : World) (k : Nat) : Prop :=
  ∃ C : Col, C.Subs ∧ (∀ x, C.mz x = true → x ∈ rs) ∧ (∀ x, P x → Held pts C x) ∧ k = rs.length - rs.countP C.sc ∧ Sep w0 w (R C)
set_option maxRecDepth 100000 in
set_option maxHeartbeats 16000000 in
theorem yuasaSnapshot_walk (A0 : Option Addr) (n0 c0 : Nat) (D0 : Nat → Nat → Int) (A1 : Option Addr) (n1 c1 : Nat) (D1 : Nat → Nat → Int) (A2 : Option Addr) (n2 c2 : Nat) (D2 : Nat → Nat → Int) (A3 : Option Addr) (n3 c3 : Nat) (D3 : Nat → Nat → Int) (w : World) (hz0 : ArgI w A0 n0 [.u8] D0) (hm0 : n0 ≤ maxLen) (hz1 : ArgI w A1 n1 [.u16, .u16, .u16] D1) (hm1 : n1 ≤ maxLen) (hz2 : ArgI w A2 n2 [.u8] D2) (hm2 : n2 ≤ maxLen) (hz3 : ArgI w A3 n3 [.u8, .u8, .u8, .u8] D3) (hm3 : n3 ≤ maxLen) :
    Calls Try.prog 9 #[.agg #[.slice A0 n0 c0, .slice A1 n1 c1], .slice A2 n2 c2, .slice A3 n3 c3] w fun e w' => e = .returned (.bool true) ∧ Below w.heap.size w w' := by
  have HZ0 := Lib.hid hz0
  have HZ1 := Lib.hid hz1
  have HZ2 := Lib.hid hz2
  have HZ3 := Lib.hid hz3
  unfold maxLen at hm0 hm1
  try unfold maxLen at hm2
  try unfold maxLen at hm3
  clear hz0 hz1 hz2 hz3
  obtain ⟨T, hT⟩ : ∃ T, w.heap.size = T := ⟨_, rfl⟩
  have hs0 := (Sep.start w).box #[.slice A0 n0 c0, .slice A1 n1 c1] 25
  rw [hT] at hs0
  have HS0 := Lib.hid hs0
  clear hs0
  go_enter Try.func9, Try.ntmps9
  by_cases hsmall : (n0 ≤ 40 ∧ n1 ≤ 120) ∧ n3 ≤ 60 ∧ n2 ≤ 10
  · have hsd : (decide (n0 ≤ 40) && decide (n1 ≤ 120)) = true := by rw [decide_eq_true hsmall.1.1, decide_eq_true hsmall.1.2]; rfl
    have HSD := Lib.hid hsd
    obtain ⟨⟨hn0, hn1⟩, hn3, hn2⟩ := hsmall
    clear hsd
    have hgt : ¬ (60 : Int) < (n3 : Int) := by omega
    have hgt2 : ¬ (10 : Int) < (n2 : Int) := by omega
    rcases Nat.eq_zero_or_pos n0 with hk0 | hkp
    · have HK0 := Lib.hid hk0
      clear hk0
      go_wp2_with (first
        | (go_at_call 29; refine (fit14 _).mono ?_; rintro e w1 ⟨rfl, hC⟩; have hs1 := HS0.out.same hC; have p0 := (hs1.blk 0 rfl).cell 0; have p1 := (hs1.blk 0 rfl).cell 1; simp only [List.getElem?_toArray, List.getElem?_cons_zero, List.getElem?_cons_succ] at p0 p1; have HS1 := Lib.hid hs1; clear hC hs1 HS0)
        | (go_at_call 17; refine (Small11 _ A0 n0 c0 A1 n1 c1).mono ?_; rw [HSD.out]; rintro e w2 ⟨rfl, hC⟩; have hs1 := HS1.out.same hC; have p0 := (hs1.blk 0 rfl).cell 0; have p1 := (hs1.blk 0 rfl).cell 1; simp only [List.getElem?_toArray, List.getElem?_cons_zero, List.getElem?_cons_succ] at p0 p1; have HS2 := Lib.hid hs1; clear hC hs1 HS1)
        | (go_at_call 18; refine (Made11 A0 n0 c0 D0 A1 n1 c1 D1 HZ0.out HZ1.out hn0 hn1 HS2.out).mono ?_; rintro e w3 ⟨a, b, v, A, rs, fs, rfl, hgr, hlen, hs⟩; have p0 := (hs.blk 3 rfl).cell 0; have p1 := (hs.blk 3 rfl).cell 1; simp only [List.getElem?_toArray, List.getElem?_cons_zero, List.getElem?_cons_succ] at p0 p1; have HGR := Lib.hid hgr; obtain ⟨AL, capl, rfl, hcapl, hmcapl⟩ := hs.rowShape 1 rfl; unfold maxLen at hmcapl; obtain ⟨Rn, hRn⟩ : ∃ Rn, rs.length = Rn := ⟨_, rfl⟩; have HRN := Lib.hid hRn; rw [hRn] at hcapl hs; try rw [hRn]; rw [hRn] at hlen; have hl40 : Rn ≤ 40 := (by omega); have HLEN := Lib.hid hlen; have hr0I : (Rn : Int) = 0 := (by have := HK0.out; omega); have hr0b : ((Rn : Int) == 0) = true := (by simpa using hr0I); have HS3 := Lib.hid hs; clear hs hgr HS2 hRn hlen))
      go_ret
      exact ⟨rfl, HS3.out.below⟩
    go_wp2_with (first
      | (go_at_call 29; refine (fit14 _).mono ?_; rintro e w1 ⟨rfl, hC⟩; have hs1 := HS0.out.same hC; have p0 := (hs1.blk 0 rfl).cell 0; have p1 := (hs1.blk 0 rfl).cell 1; simp only [List.getElem?_toArray, List.getElem?_cons_zero, List.getElem?_cons_succ] at p0 p1; have HS1 := Lib.hid hs1; clear hC hs1 HS0)
      | (go_at_call 17; refine (Small11 _ A0 n0 c0 A1 n1 c1).mono ?_; rw [HSD.out]; rintro e w2 ⟨rfl, hC⟩; have hs1 := HS1.out.same hC; have p0 := (hs1.blk 0 rfl).cell 0; have p1 := (hs1.blk 0 rfl).cell 1; simp only [List.getElem?_toArray, List.getElem?_cons_zero, List.getElem?_cons_succ] at p0 p1; have HS2 := Lib.hid hs1; clear hC hs1 HS1)
      | (go_at_call 18; refine (Made11 A0 n0 c0 D0 A1 n1 c1 D1 HZ0.out HZ1.out hn0 hn1 HS2.out).mono ?_; rintro e w3 ⟨a, b, v, A, rs, fs, rfl, hgr, hlen, hs⟩; have p0 := (hs.blk 3 rfl).cell 0; have p1 := (hs.blk 3 rfl).cell 1; simp only [List.getElem?_toArray, List.getElem?_cons_zero, List.getElem?_cons_succ] at p0 p1; have HGR := Lib.hid hgr; obtain ⟨AL, capl, rfl, hcapl, hmcapl⟩ := hs.rowShape 1 rfl; unfold maxLen at hmcapl; obtain ⟨Rn, hRn⟩ : ∃ Rn, rs.length = Rn := ⟨_, rfl⟩; have HRN := Lib.hid hRn; rw [hRn] at hcapl hs; try rw [hRn]; rw [hRn] at hlen; have hl40 : Rn ≤ 40 := (by omega); have HLEN := Lib.hid hlen; have hr0I : ¬ (Rn : Int) = 0 := (by omega); have hr0b : ((Rn : Int) == 0) = false := (by simp; omega); have hRp : 0 < Rn := (by omega); have HS3 := Lib.hid hs; clear hs hgr HS2 hRn hlen)
      | (go_at_call 19; refine (KNew HS3.out 0 rfl HGR.out.size (by omega) 3 (by omega)).mono ?_; rintro e w4 ⟨m, rfl, hs⟩; have HC := Lib.hid (YNew hs m); clear hs HS3)
      | (go_at_call 30; refine (HC.out).mono ?_; rintro e w5 ⟨bb, rfl, hs⟩; have HS5 := Lib.hid (show Sep w w5 (yuaR bb m :: markR m a 2049 (Col.white) :: arenaR a A :: rowR 36 1 (.slice AL Rn capl) Rn (nums rs) :: adjR Try.prog 36 36 b (ptsOf fs) :: blkR T 25 #[.slice A0 n0 c0, .slice A1 n1 c1] :: []) from hs); clear hs HC))
    obtain ⟨g, cap', hsl, _, _⟩ := HS5.out.rowSome 3 rfl hRp
    simp only [Value.slice.injEq] at hsl
    obtain ⟨rfl, _, rfl⟩ := hsl
    go_loopw [12, 58] (fun v i wr => ∃ (k : Nat) (ro : List Nat), k ≤ n2 ∧ i = .int .i64 k ∧ ro.length = k ∧ (∀ x ∈ ro, x ∈ rs) ∧ Sep w wr (rowR 36 1 v k (nums ro) :: yuaR bb m :: markR m a 2049 (Col.white) :: arenaR a A :: rowR 36 1 (.slice (some ⟨g, 0, none⟩) Rn capl) Rn (nums rs) :: adjR Try.prog 36 36 b (ptsOf fs) :: blkR T 25 #[.slice A0 n0 c0, .slice A1 n1 c1] :: [])) (fun _ i _ => n2 + 1 - (intOf i).toNat)
    case atStart => exact ⟨0, [], by omega, rfl, rfl, by simp, HS5.out.nilRow 36 1⟩
    case round =>
      clear HS5
      obtain ⟨k, ro, hk, rfl, hln, hri, hs⟩ := hrel
      by_cases hlt : k < n2
      · have hltI : (k : Int) < (n2 : Int) := by omega
        obtain ⟨AO, capo, hvo, hcapo, hcmo⟩ := hs.rowShape 0 rfl
        subst hvo
        unfold maxLen at hcmo
        have hown := hs.own
        obtain ⟨ab, ao, hA0, hcell⟩ := HZ2.out.at_ hown hlt
        subst hA0
        have hc0 := hcell 0 _ rfl
        have hwf := wf8 (HZ2.out.wf hlt 0 .u8 rfl)
        simp at hc0
        obtain ⟨d0, h0⟩ : ∃ d, D2 k 0 = d := ⟨_, rfl⟩
        rw [h0] at hc0 hwf
        clear hcell h0
        obtain ⟨K1, um, ul⟩ : ∃ K1 : Nat, d0.tmod (Rn : Int) = (K1 : Int) ∧ K1 < Rn := by
          have h1 := Int.emod_nonneg d0 (show (Rn : Int) ≠ 0 by omega)
          have h2 := Int.emod_lt_of_pos d0 (show (0 : Int) < (Rn : Int) by omega)
          refine ⟨(d0 % (Rn : Int)).toNat, ?_, by omega⟩
          rw [Int.tmod_eq_emod_of_nonneg (by omega)]
          omega
        have uI : (K1 : Int) < (Rn : Int) := by omega
        have u0 : (0 : Int) ≤ (K1 : Int) := by omega
        obtain ⟨rx, hx⟩ : ∃ x, rs[K1]? = some x := ⟨_, List.getElem?_eq_getElem (by rw [HRN.out]; exact ul)⟩
        have cx := hs.rowCell 4 rfl K1 _ (nums_get _ _ _ hx)
        have hxr : rx ∈ rs := List.mem_of_getElem? hx
        have HSK := Lib.hid hs
        have HLN := Lib.hid hln
        have HRI := Lib.hid hri
        clear hs hx hown hln hri
        go_wp2_with (at_builtin; refine wpList_append_sep rfl _ _ 29 rfl 36 (.int .i64 0) 1 8 Try.underlying29 refInfo rfl (by decide) HSK.out 0 rfl rfl [.int .i64 (rx : Int)] rfl (by simp [Value.oneCell']) rfl (by unfold maxLen; omega) (by omega) ?_; intro g4 cap4 w4 hcap4 hcm4 hs4; have HS4r := Lib.hid hs4; clear hs4)
        go_roundw
        case rel => exact ⟨k + 1, ro ++ [rx], by omega, by go_num, by simp [HLN.out], (fun x hx => by
            rcases List.mem_append.1 hx with h | h
            · exact HRI.out x h
            · simp at h; rw [h]; exact hxr), by
            have h4 := HS4r.out
            rw [nums_append]
            exact h4⟩
        case measure => simp [intOf]; omega
      · obtain rfl : n2 = k := by omega
        obtain ⟨AO, capo, hvo, hcapo, hcmo⟩ := hs.rowShape 0 rfl
        subst hvo
        have HRL := Lib.hid hln
        have HRI := Lib.hid hri
        have HC := Lib.hid (Reach11 (HGR.out.field (by rw [HRN.out]; omega)) HRI.out (by rw [HRL.out]; omega) (show Sep w wr (rowR 36 1 (.slice AO n2 capo) ro.length (nums ro) :: adjR Try.prog 36 36 b (ptsOf fs) :: yuaR bb m :: markR m a 2049 (Col.white) :: arenaR a A :: rowR 36 1 (.slice (some ⟨g, 0, none⟩) Rn capl) Rn (nums rs) :: blkR T 25 #[.slice A0 n0 c0, .slice A1 n1 c1] :: []) from by
          rw [HRL.out]
          exact hs.front 6 [0, 5]))
        clear hs hln hri
        go_wp2_with (go_at_call 44; refine (HC.out).mono ?_; rintro e w8 ⟨mb, V, rfl, hV, hVo, hs⟩; rw [HRL.out] at hs; have HV := Lib.hid hV; have HS6 := Lib.hid (show Sep w w8 (mapR Try.prog 35 36 3 .i64 .i64 mb (rs.countP V) (visM V) :: rowR 36 1 (.slice AO n2 capo) n2 (nums ro) :: adjR Try.prog 36 36 b (ptsOf fs) :: yuaR bb m :: markR m a 2049 (Col.white) :: arenaR a A :: rowR 36 1 (.slice (some ⟨g, 0, none⟩) Rn capl) Rn (nums rs) :: blkR T 25 #[.slice A0 n0 c0, .slice A1 n1 c1] :: []) from hs); clear hs hV hVo HC)
        go_loopw [79] (fun i wr => ∃ (k : Nat), k ≤ n2 ∧ i = .int .i64 k ∧ Sep w wr (mapR Try.prog 35 36 3 .i64 .i64 mb (rs.countP V) (visM V) :: rowR 36 1 (.slice AO n2 capo) n2 (nums ro) :: adjR Try.prog 36 36 b (ptsOf fs) :: yuaR bb m :: markR m a 2049 (Col.white.shades (ro.take k)) :: arenaR a A :: rowR 36 1 (.slice (some ⟨g, 0, none⟩) Rn capl) Rn (nums rs) :: blkR T 25 #[.slice A0 n0 c0, .slice A1 n1 c1] :: [])) (fun i _ => n2 + 1 - (intOf i).toNat)
        case atStart => exact ⟨0, by omega, rfl, HS6.out⟩
        case round =>
          clear HS6
          obtain ⟨k, hk, rfl, hs⟩ := hrel
          by_cases hlt : k < n2
          · have hltI : (k : Int) < (n2 : Int) := by omega
            obtain ⟨x, hx⟩ : ∃ z_, ro[k]? = some z_ := ⟨_, List.getElem?_eq_getElem (by rw [HRL.out]; exact hlt)⟩
            obtain ⟨g7, cap', hsl, _, _⟩ := hs.rowSome 1 rfl (by omega)
            simp only [Value.slice.injEq] at hsl
            obtain ⟨rfl, _, rfl⟩ := hsl
            have cx := hs.rowCell 1 rfl k _ (nums_get _ _ _ hx)
            have hx2 := HGR.out.lt (HRI.out x (List.mem_of_getElem? hx))
            have HC := Lib.hid (KShade hs 4 rfl x hx2.1 hx2.2)
            have HNX := Lib.hid (shades_next (C := Col.white) hx)
            clear hs hx
            go_wp2_with (go_at_call 20; refine (HC.out).mono ?_; rintro e w7 ⟨rfl, hs⟩; rw [HNX.out] at hs; have HS7 := Lib.hid hs; clear hs HC)
            go_roundw
            case rel => exact ⟨k + 1, by omega, by go_num, HS7.out⟩
            case measure => simp [intOf]; omega
          · obtain rfl : n2 = k := by omega
            rw [shades_all HRL.out] at hs
            have HSF := Lib.hid hs
            clear hs
            go_wp2
            go_loopw [89] (fun i wr => ∃ (k : Nat) (A : AR) (ft : Nat → List Nat) (C : Col), k ≤ n3 ∧ i = .int .i64 k ∧ Gr A rs ft ∧ C.Subs ∧ (∀ x, C.mz x = true → x ∈ rs) ∧ (∀ x, Leads (ptsOf fs) (fun x => x ∈ ro) x → Held (ptsOf ft) C x) ∧ Sep w wr (mapR Try.prog 35 36 3 .i64 .i64 mb (rs.countP V) (visM V) :: rowR 36 1 (.slice AO n2 capo) n2 (nums ro) :: adjR Try.prog 36 36 b (ptsOf fs) :: yuaR bb m :: markR m a 2049 (C) :: arenaR a A :: rowR 36 1 (.slice (some ⟨g, 0, none⟩) Rn capl) Rn (nums rs) :: blkR T 25 #[.slice A0 n0 c0, .slice A1 n1 c1] :: [])) (fun i _ => n3 + 1 - (intOf i).toNat)
            case atStart => exact ⟨0, A, fs, _, by omega, rfl, HGR.out, (fun x hx => by rw [white_shades_sc] at hx; cases hx), (fun x hx => HRI.out x (by rw [white_shades] at hx; exact of_decide_eq_true hx)), held_start (fun x hx => by rw [white_shades]; exact decide_eq_true hx) (white_shades_sc ro), HSF.out⟩
            case round =>
              clear HSF
              obtain ⟨k, A, ft, C, hk, rfl, hgq, hsb, hmr, hhd, hs⟩ := hrel
              have HGQ := Lib.hid hgq
              have HSB := Lib.hid hsb
              have HMR := Lib.hid hmr
              have HHD := Lib.hid hhd
              clear hgq hsb hmr hhd
              by_cases hlt : k < n3
              · have hltI : (k : Int) < (n3 : Int) := by omega
                obtain ⟨ab, ao, hA0, hcell⟩ := HZ3.out.at_ hs.own hlt
                subst hA0
                have hc0 := hcell 0 _ rfl
                have hw0 := wf8 (HZ3.out.wf hlt 0 .u8 rfl)
                have hc1 := hcell 1 _ rfl
                have hw1 := wf8 (HZ3.out.wf hlt 1 .u8 rfl)
                have hc2 := hcell 2 _ rfl
                have hw2 := wf8 (HZ3.out.wf hlt 2 .u8 rfl)
                have hc3 := hcell 3 _ rfl
                have hw3 := wf8 (HZ3.out.wf hlt 3 .u8 rfl)
                simp at hc0 hc1 hc2 hc3
                obtain ⟨d0, h0⟩ : ∃ d, D3 k 0 = d := ⟨_, rfl⟩
                rw [h0] at hc0 hw0
                obtain ⟨d1, h1⟩ : ∃ d, D3 k 1 = d := ⟨_, rfl⟩
                rw [h1] at hc1 hw1
                obtain ⟨d2, h2⟩ : ∃ d, D3 k 2 = d := ⟨_, rfl⟩
                rw [h2] at hc2 hw2
                obtain ⟨d3, h3⟩ : ∃ d, D3 k 3 = d := ⟨_, rfl⟩
                rw [h3] at hc3 hw3
                clear hcell h0 h1 h2 h3
                obtain ⟨K1, um, ul⟩ : ∃ K1 : Nat, d0.tmod (Rn : Int) = (K1 : Int) ∧ K1 < Rn := by
                  have h1 := Int.emod_nonneg d0 (show (Rn : Int) ≠ 0 by omega)
                  have h2 := Int.emod_lt_of_pos d0 (show (0 : Int) < (Rn : Int) by omega)
                  refine ⟨(d0 % (Rn : Int)).toNat, ?_, by omega⟩
                  rw [Int.tmod_eq_emod_of_nonneg (by omega)]
                  omega
                have uI : (K1 : Int) < (Rn : Int) := by omega
                have u0 : (0 : Int) ≤ (K1 : Int) := by omega
                obtain ⟨K2, vm, vl⟩ : ∃ K2 : Nat, d1.tmod (Rn : Int) = (K2 : Int) ∧ K2 < Rn := by
                  have h1 := Int.emod_nonneg d1 (show (Rn : Int) ≠ 0 by omega)
                  have h2 := Int.emod_lt_of_pos d1 (show (0 : Int) < (Rn : Int) by omega)
                  refine ⟨(d1 % (Rn : Int)).toNat, ?_, by omega⟩
                  rw [Int.tmod_eq_emod_of_nonneg (by omega)]
                  omega
                have vI : (K2 : Int) < (Rn : Int) := by omega
                have v0 : (0 : Int) ≤ (K2 : Int) := by omega
                obtain ⟨rx, hx⟩ : ∃ x, rs[K1]? = some x := ⟨_, List.getElem?_eq_getElem (by rw [HRN.out]; exact ul)⟩
                obtain ⟨ry, hy⟩ : ∃ x, rs[K2]? = some x := ⟨_, List.getElem?_eq_getElem (by rw [HRN.out]; exact vl)⟩
                have hxr : rx ∈ rs := List.mem_of_getElem? hx
                have hyr : ry ∈ rs := List.mem_of_getElem? hy
                have hx2 := HGR.out.lt hxr
                have hy2 := HGR.out.lt hyr
                have HX := Lib.hid hx
                have HY := Lib.hid hy
                obtain ⟨T5, hT5⟩ : ∃ T5, wr.heap.size = T5 := ⟨_, rfl⟩
                have hsb := hs.box #[.int .u8 d0, .int .u8 d1, .int .u8 d2, .int .u8 d3] 50
                rw [hT5] at hsb
                have HSQ := Lib.hid hsb
                clear hs hsb hx hy
                go_wp2
                refine region_sep HSQ.out (by kernel_rfl) (by kernel_rfl) ?_
                intro hne0
                have yz0 : ∀ x : SepW w (blkR T5 50 #[.int .u8 d0, .int .u8 d1, .int .u8 d2, .int .u8 d3] :: mapR Try.prog 35 36 3 .i64 .i64 mb (rs.countP V) (visM V) :: rowR 36 1 (.slice AO n2 capo) n2 (nums ro) :: adjR Try.prog 36 36 b (ptsOf fs) :: yuaR bb m :: markR m a 2049 (C) :: arenaR a A :: rowR 36 1 (.slice (some ⟨g, 0, none⟩) Rn capl) Rn (nums rs) :: blkR T 25 #[.slice A0 n0 c0, .slice A1 n1 c1] :: []), x.w'.cell? ⟨T5, 0, none⟩ = some (.int .u8 d0) := fun x => by
                  have := (x.h.blk 0 rfl).cell 0
                  simpa using this
                have yz1 : ∀ x : SepW w (blkR T5 50 #[.int .u8 d0, .int .u8 d1, .int .u8 d2, .int .u8 d3] :: mapR Try.prog 35 36 3 .i64 .i64 mb (rs.countP V) (visM V) :: rowR 36 1 (.slice AO n2 capo) n2 (nums ro) :: adjR Try.prog 36 36 b (ptsOf fs) :: yuaR bb m :: markR m a 2049 (C) :: arenaR a A :: rowR 36 1 (.slice (some ⟨g, 0, none⟩) Rn capl) Rn (nums rs) :: blkR T 25 #[.slice A0 n0 c0, .slice A1 n1 c1] :: []), x.w'.cell? ⟨T5, 1, none⟩ = some (.int .u8 d1) := fun x => by
                  have := (x.h.blk 0 rfl).cell 1
                  simpa using this
                have yx : ∀ x : SepW w (blkR T5 50 #[.int .u8 d0, .int .u8 d1, .int .u8 d2, .int .u8 d3] :: mapR Try.prog 35 36 3 .i64 .i64 mb (rs.countP V) (visM V) :: rowR 36 1 (.slice AO n2 capo) n2 (nums ro) :: adjR Try.prog 36 36 b (ptsOf fs) :: yuaR bb m :: markR m a 2049 (C) :: arenaR a A :: rowR 36 1 (.slice (some ⟨g, 0, none⟩) Rn capl) Rn (nums rs) :: blkR T 25 #[.slice A0 n0 c0, .slice A1 n1 c1] :: []), x.w'.cell? ⟨g, K1, none⟩ = some (.int .i64 (rx : Int)) := fun x => x.h.rowCell 7 rfl K1 _ (nums_get _ _ _ HX.out)
                have yy : ∀ x : SepW w (blkR T5 50 #[.int .u8 d0, .int .u8 d1, .int .u8 d2, .int .u8 d3] :: mapR Try.prog 35 36 3 .i64 .i64 mb (rs.countP V) (visM V) :: rowR 36 1 (.slice AO n2 capo) n2 (nums ro) :: adjR Try.prog 36 36 b (ptsOf fs) :: yuaR bb m :: markR m a 2049 (C) :: arenaR a A :: rowR 36 1 (.slice (some ⟨g, 0, none⟩) Rn capl) Rn (nums rs) :: blkR T 25 #[.slice A0 n0 c0, .slice A1 n1 c1] :: []), x.w'.cell? ⟨g, K2, none⟩ = some (.int .i64 (ry : Int)) := fun x => x.h.rowCell 7 rfl K2 _ (nums_get _ _ _ HY.out)
                repeat (go_big_quiet_step (fail))
                refine wpQuiet_nil ?_
                rintro wq ⟨⟨wqx, hs⟩, rfl⟩
                clear yz0 yz1 yx yy hne0
                have HCF := Lib.hid (HFields hs 6 rfl HGQ.out.heap hxr)
                obtain ⟨Fn, hFn⟩ : ∃ Fn, (ft rx).length = Fn := ⟨_, rfl⟩
                have HFN := Lib.hid hFn
                have hF6 : Fn ≤ 6 := by rw [← hFn]; exact (ptsOf_len HGQ.out.heap hxr).2
                have hx3 := and8_3 hw3
                obtain ⟨q3, hq3, hq3l⟩ : ∃ q : Nat, d3 % 4 = (q : Int) ∧ q ≤ 3 := ⟨(d3 % 4).toNat, by omega, by omega⟩
                rw [hq3] at hx3
                obtain ⟨qt, hqt, hqtl⟩ : ∃ q : Nat, d2 % 4 = (q : Int) ∧ q ≤ 3 := ⟨(d2 % 4).toNat, by omega, by omega⟩
                have hqtt : d2.tmod 4 = (qt : Int) := by rw [Int.tmod_eq_emod_of_nonneg (by omega)]; exact hqt
                clear hs hFn hq3 hqt HSQ hT5 HX HY
                by_cases hz3 : q3 = 0
                · rw [hz3] at hx3
                  simp only [Int.ofNat_zero, Int.natCast_zero] at hx3
                  go_wp2_with (first
                    | (go_at_call 36; refine (HCF.out).mono ?_; rw [HFN.out]; rintro e w5 ⟨rfl, hs⟩; have z2 := (hs.blk 0 rfl).cell 2; have z3 := (hs.blk 0 rfl).cell 3; simp only [List.getElem?_toArray, List.getElem?_cons_zero, List.getElem?_cons_succ] at z2 z3; have HCT := Lib.hid (KTrace HGQ.out.heap HGQ.out.size (C := C) HMR.out hs 5 6 rfl rfl (by decide) qt (by omega)); clear hs HCF)
                    | (go_at_call 37; refine (HCT.out).mono ?_; rintro e w6 ⟨dt, C2, rfl, ht, hs⟩; have HTR := Lib.hid ht; have HSI := Lib.hid hs.tail; clear hs ht HCT z2 z3))
                  have HH := Lib.hid (Held.steps HTR.out.steps HSB.out)
                  have HMR2 := Lib.hid (HTR.out.steps.within (P := fun x => x ∈ rs) HGQ.out.ptsIn HMR.out)
                  go_roundw
                  case rel => exact ⟨k + 1, A, ft, C2, by omega, by go_num, HGQ.out, HH.out.1, HMR2.out, fun x hx => HH.out.2 x (HHD.out x hx), HSI.out⟩
                  case measure => simp [intOf]; omega
                · have hq3z : ¬ (q3 : Int) = 0 := by omega
                  have hq3b : ((q3 : Int) == 0) = false := by simp; omega
                  by_cases hF0 : Fn = 0
                  · have hFz : (Fn : Int) = 0 := by omega
                    have hFb : ((Fn : Int) == 0) = true := by simp; omega
                    go_wp2_with (first
                      | (go_at_call 36; refine (HCF.out).mono ?_; rw [HFN.out]; rintro e w5 ⟨rfl, hs⟩; have z2 := (hs.blk 0 rfl).cell 2; have z3 := (hs.blk 0 rfl).cell 3; simp only [List.getElem?_toArray, List.getElem?_cons_zero, List.getElem?_cons_succ] at z2 z3; have HCT := Lib.hid (KTrace HGQ.out.heap HGQ.out.size (C := C) HMR.out hs 5 6 rfl rfl (by decide) qt (by omega)); clear hs HCF)
                      | (go_at_call 37; refine (HCT.out).mono ?_; rintro e w6 ⟨dt, C2, rfl, ht, hs⟩; have HTR := Lib.hid ht; have HSI := Lib.hid hs.tail; clear hs ht HCT z2 z3))
                    have HH := Lib.hid (Held.steps HTR.out.steps HSB.out)
                    have HMR2 := Lib.hid (HTR.out.steps.within (P := fun x => x ∈ rs) HGQ.out.ptsIn HMR.out)
                    go_roundw
                    case rel => exact ⟨k + 1, A, ft, C2, by omega, by go_num, HGQ.out, HH.out.1, HMR2.out, fun x hx => HH.out.2 x (HHD.out x hx), HSI.out⟩
                    case measure => simp [intOf]; omega
                  · have hFz : ¬ (Fn : Int) = 0 := by omega
                    have hFb : ((Fn : Int) == 0) = false := by simp; omega
                    obtain ⟨J, tm, tl⟩ : ∃ J : Nat, d2.tmod (Fn : Int) = (J : Int) ∧ J < Fn := by
                      have h1 := Int.emod_nonneg d2 (show (Fn : Int) ≠ 0 by omega)
                      have h2 := Int.emod_lt_of_pos d2 (show (0 : Int) < (Fn : Int) by omega)
                      refine ⟨(d2 % (Fn : Int)).toNat, ?_, by omega⟩
                      rw [Int.tmod_eq_emod_of_nonneg (by omega)]
                      omega
                    have tI : (J : Int) < (Fn : Int) := by omega
                    have t0 : (0 : Int) ≤ (J : Int) := by omega
                    obtain ⟨yo, hyo⟩ : ∃ z, (ft rx)[J]? = some z := ⟨_, List.getElem?_eq_getElem (by rw [HFN.out]; exact tl)⟩
                    have HYO := Lib.hid hyo
                    have HYB := Lib.hid (show yo < 2049 ∧ (yo = 0 ∨ yo ∈ rs) from by
                      rcases HGQ.out.heap.closed rx hxr yo (List.mem_of_getElem? hyo) with h | h
                      · exact ⟨by omega, .inl h⟩
                      · exact ⟨(HGR.out.lt h).2, .inr h⟩)
                    clear hyo
                    go_wp2_with (first
                      | (go_at_call 36; refine (HCF.out).mono ?_; rw [HFN.out]; rintro e w5 ⟨rfl, hs⟩; have z2 := (hs.blk 0 rfl).cell 2; have z3 := (hs.blk 0 rfl).cell 3; simp only [List.getElem?_toArray, List.getElem?_cons_zero, List.getElem?_cons_succ] at z2 z3; have HCG := Lib.hid (HField hs 6 rfl HGQ.out.heap hxr J yo HYO.out); clear hs HCF)
                      | (go_at_call 38; refine (HCG.out).mono ?_; rintro e w6 ⟨rfl, hs⟩; have HCP := Lib.hid (YPre hs 4 5 rfl rfl (rx : Int) yo HYB.out.1); clear hs HCG z2 z3)
                      | (go_at_call 31; refine (HCP.out).mono ?_; rintro e w7 ⟨rfl, hs⟩; have HCS := Lib.hid (HSetField hs 6 rfl HGQ.out.heap hxr J ry (by rw [HFN.out]; exact tl) (.inr hyr)); clear hs HCP)
                      | (go_at_call 39; refine (HCS.out).mono ?_; rintro e w8 ⟨A2, rfl, hs, hS, hH⟩; have HST := Lib.hid hS; have HHH := Lib.hid hH; have HCN := Lib.hid (KScanned hs 5 rfl rx hx2.2); clear hs hS hH HCS)
                      | (go_at_call 28; refine (HCN.out).mono ?_; rintro e w9 ⟨rfl, hs⟩; have HCQ := Lib.hid (YPost hs 4 5 rfl (by decide) rfl (rx : Int) yo ry ((C.shade0 yo).sc rx) false HYB.out.1 hy2.2); clear hs HCN)
                      | (go_at_call 32; refine (HCQ.out).mono ?_; rintro e w10 ⟨rfl, hs⟩; simp only [Bool.false_eq_true, if_false] at hs; have HSI := Lib.hid hs.tail; clear hs HCQ))
                    have HGR2 := Lib.hid (HGQ.out.store hxr HST.out HHH.out)
                    have HS1 := Lib.hid (HSB.out.shade0 yo)
                    have HH1 := Lib.hid (fun x (hx : Held (ptsOf ft) C x) => Held.write (pts' := ptsOf (updT ft rx ((ft rx).set J ry))) (fun z u hu hm => by
                      rw [ptsOf, List.mem_filter] at hu ⊢
                      refine ⟨?_, hu.2⟩
                      by_cases e : z = rx
                      · subst e
                        simp only [updT, if_true]
                        have hne : u ≠ yo := by
                          rintro rfl
                          rw [shade0_mz] at hm
                          have h0 : u ≠ 0 := by
                            intro e0
                            subst e0
                            simp at hu
                          simp [h0] at hm
                        obtain ⟨j, hj, hju⟩ := List.getElem_of_mem hu.1
                        refine List.mem_iff_getElem?.2 ⟨j, ?_⟩
                        rw [List.getElem?_set]
                        split
                        · rename_i e2
                          subst e2
                          have h1 := HYO.out
                          rw [List.getElem?_eq_getElem hj, hju] at h1
                          exact absurd (Option.some.inj h1) hne
                        · rw [List.getElem?_eq_getElem hj, hju]
                      · simp only [updT, e, if_false]
                        exact hu.1) x (Held.shade0 HSB.out yo x hx))
                    have HM1 := Lib.hid (show ∀ x, ((C.shade0 yo).shade0 yo).mz x = true → x ∈ rs from fun x hx => by
                      rw [shade0_mz, shade0_mz] at hx
                      simp only [Bool.or_eq_true, Bool.and_eq_true, decide_eq_true_eq] at hx
                      rcases hx with (h | ⟨rfl, h0⟩) | ⟨rfl, h0⟩
                      · exact HMR.out x h
                      · rcases HYB.out.2 with h | h
                        · exact absurd h h0
                        · exact h
                      · rcases HYB.out.2 with h | h
                        · exact absurd h h0
                        · exact h)
                    go_roundw
                    case rel => exact ⟨k + 1, A2, updT ft rx ((ft rx).set J ry), (C.shade0 yo).shade0 yo, by omega, by go_num, HGR2.out, HS1.out.shade0 yo, HM1.out, fun x hx => Held.shade0 HS1.out yo x (HH1.out x (HHD.out x hx)), by
                        have h1 := HSI.out
                        simp only [List.set_cons_succ, List.set_cons_zero] at h1
                        exact h1⟩
                    case measure => simp [intOf]; omega
              · obtain rfl : n3 = k := by omega
                have HSD := Lib.hid hs
                clear hs
                go_wp2
                have HJ := Lib.hid (show SnapJ w rs (ptsOf ft) (Leads (ptsOf fs) (fun x => x ∈ ro)) (fun C => mapR Try.prog 35 36 3 .i64 .i64 mb (rs.countP V) (visM V) :: rowR 36 1 (.slice AO n2 capo) n2 (nums ro) :: adjR Try.prog 36 36 b (ptsOf fs) :: yuaR bb m :: markR m a 2049 (C) :: arenaR a A :: rowR 36 1 (.slice (some ⟨g, 0, none⟩) Rn capl) Rn (nums rs) :: blkR T 25 #[.slice A0 n0 c0, .slice A1 n1 c1] :: []) wr _ from ⟨C, HSB.out, HMR.out, HHD.out, rfl, HSD.out⟩)
                clear HSB HMR HHD HSD
                go_loopw [160] (fun _ wr => ∃ k, SnapJ w rs (ptsOf ft) (Leads (ptsOf fs) (fun x => x ∈ ro)) (fun C => mapR Try.prog 35 36 3 .i64 .i64 mb (rs.countP V) (visM V) :: rowR 36 1 (.slice AO n2 capo) n2 (nums ro) :: adjR Try.prog 36 36 b (ptsOf fs) :: yuaR bb m :: markR m a 2049 (C) :: arenaR a A :: rowR 36 1 (.slice (some ⟨g, 0, none⟩) Rn capl) Rn (nums rs) :: blkR T 25 #[.slice A0 n0 c0, .slice A1 n1 c1] :: []) wr k) (fun _ wr => leastN (SnapJ w rs (ptsOf ft) (Leads (ptsOf fs) (fun x => x ∈ ro)) (fun C => mapR Try.prog 35 36 3 .i64 .i64 mb (rs.countP V) (visM V) :: rowR 36 1 (.slice AO n2 capo) n2 (nums ro) :: adjR Try.prog 36 36 b (ptsOf fs) :: yuaR bb m :: markR m a 2049 (C) :: arenaR a A :: rowR 36 1 (.slice (some ⟨g, 0, none⟩) Rn capl) Rn (nums rs) :: blkR T 25 #[.slice A0 n0 c0, .slice A1 n1 c1] :: []) wr))
                case atStart => exact ⟨_, HJ.out⟩
                case round =>
                  clear HJ
                  have hl := (leastN_is hrel).1
                  have HREL := Lib.hid hrel
                  obtain ⟨kk, hkk⟩ : ∃ kk, leastN (SnapJ w rs (ptsOf ft) (Leads (ptsOf fs) (fun x => x ∈ ro)) (fun C => mapR Try.prog 35 36 3 .i64 .i64 mb (rs.countP V) (visM V) :: rowR 36 1 (.slice AO n2 capo) n2 (nums ro) :: adjR Try.prog 36 36 b (ptsOf fs) :: yuaR bb m :: markR m a 2049 (C) :: arenaR a A :: rowR 36 1 (.slice (some ⟨g, 0, none⟩) Rn capl) Rn (nums rs) :: blkR T 25 #[.slice A0 n0 c0, .slice A1 n1 c1] :: []) wr) = kk := ⟨_, rfl⟩
                  rw [hkk] at hl
                  obtain ⟨C, hsb, hmr, hhd, hkc, hs⟩ := hl
                  have HSB := Lib.hid hsb
                  have HMR := Lib.hid hmr
                  have HHD := Lib.hid hhd
                  have HKC := Lib.hid hkc
                  have HKK := Lib.hid hkk
                  have HCD := Lib.hid (KDrained hs 4 rfl)
                  clear hrel hsb hmr hhd hkc hkk hs
                  go_wp2_with (first
                    | (go_at_call 41; refine (HCD.out).mono ?_; rintro e w7 ⟨bq, rfl, hb, hs⟩; have HB := Lib.hid hb; have HS7 := Lib.hid hs; have HCT := Lib.hid (KTrace HGQ.out.heap HGQ.out.size (C := C) HMR.out hs 4 5 rfl rfl (by decide) 16 (by omega)); clear hs hb HCD; cases bq)
                    | (go_at_call 37; refine (HCT.out).mono ?_; rintro e w8 ⟨d2, C2, rfl, ht, hs⟩; have HTR := Lib.hid ht; have HS8 := Lib.hid hs; clear hs ht HCT))
                  · have hd2 : 0 < d2 := HTR.out.some_ (by omega) (some_grey (fun h => by have := HB.out.2 h; cases this)).choose_spec
                    have hcnt := HTR.out.steps.count HGR.out.nodup HGQ.out.ptsIn HMR.out
                    have hhs := Held.steps HTR.out.steps HSB.out
                    have hJ2 : SnapJ w rs (ptsOf ft) (Leads (ptsOf fs) (fun x => x ∈ ro)) (fun C => mapR Try.prog 35 36 3 .i64 .i64 mb (rs.countP V) (visM V) :: rowR 36 1 (.slice AO n2 capo) n2 (nums ro) :: adjR Try.prog 36 36 b (ptsOf fs) :: yuaR bb m :: markR m a 2049 (C) :: arenaR a A :: rowR 36 1 (.slice (some ⟨g, 0, none⟩) Rn capl) Rn (nums rs) :: blkR T 25 #[.slice A0 n0 c0, .slice A1 n1 c1] :: []) w8 (rs.length - rs.countP C2.sc) := ⟨C2, hhs.1, HTR.out.steps.within (P := fun x => x ∈ rs) HGQ.out.ptsIn HMR.out, fun x hx => hhs.2 x (HHD.out x hx), rfl, HS8.out⟩
                    go_roundw
                    case rel => exact ⟨_, hJ2⟩
                    case measure =>
                      refine leastN_lt HREL.out hJ2 ?_
                      rw [HKK.out, HKC.out]
                      have h1 := List.countP_le_length (p := C2.sc) (l := rs)
                      omega
                  · have HNO := Lib.hid (HB.out.1 (by first | rfl | trivial))
                    have HSE := HS7
                    clear HB HCT HS7 HREL HKC HKK
                    go_loopw [166] (fun i wr => ∃ (k : Nat), k ≤ Rn ∧ i = .int .i64 k ∧ Sep w wr (mapR Try.prog 35 36 3 .i64 .i64 mb (rs.countP V) (visM V) :: rowR 36 1 (.slice AO n2 capo) n2 (nums ro) :: adjR Try.prog 36 36 b (ptsOf fs) :: yuaR bb m :: markR m a 2049 (C) :: arenaR a A :: rowR 36 1 (.slice (some ⟨g, 0, none⟩) Rn capl) Rn (nums rs) :: blkR T 25 #[.slice A0 n0 c0, .slice A1 n1 c1] :: [])) (fun i _ => Rn + 1 - (intOf i).toNat)
                    case atStart => exact ⟨0, by omega, rfl, HSE.out⟩
                    case round =>
                      clear HSE
                      obtain ⟨k, hk, rfl, hs⟩ := hrel
                      by_cases hlt : k < Rn
                      · have hltI : (k : Int) < (Rn : Int) := by omega
                        obtain ⟨xr, hx⟩ : ∃ z_, rs[k]? = some z_ := ⟨_, List.getElem?_eq_getElem (by rw [HRN.out]; exact hlt)⟩
                        have cx := hs.rowCell 6 rfl k _ (nums_get _ _ _ hx)
                        have hx2 := HGR.out.lt (List.mem_of_getElem? hx)
                        have hlk := map_get refIntOk hs 0 rfl (wfx (x := xr) (by omega))
                        obtain ⟨bv, hbv⟩ : ∃ b, V xr = b := ⟨_, rfl⟩
                        have HVX := Lib.hid hbv
                        rw [visM_at, hbv] at hlk
                        have HCK := Lib.hid (KMarked hs 4 rfl xr hx2.2)
                        have HSS := Lib.hid hs
                        clear hs hx hbv
                        cases bv
                        · simp only [Bool.false_eq_true, if_false, Option.getD_none] at hlk
                          have HLK := Lib.hid hlk
                          clear hlk
                          go_wp2_with (at_lookup; refine wpList_lookup_run rfl _ _ _ _ rfl rfl rfl HLK.out ?_; clear HLK)
                          go_roundw
                          case rel => exact ⟨k + 1, by omega, by go_num, HSS.out⟩
                          case measure => simp [intOf]; omega
                        · simp only [if_true, Option.getD_some] at hlk
                          have HLK := Lib.hid hlk
                          have HMM := Lib.hid (show C.mz xr = true from (HHD.out xr ((HV.out xr).1 HVX.out)).end_ HNO.out)
                          clear hlk
                          go_wp2_with (first
                            | (at_lookup; refine wpList_lookup_run rfl _ _ _ _ rfl rfl rfl HLK.out ?_; clear HLK)
                            | (go_at_call 27; refine (HCK.out).mono ?_; rw [HMM.out]; rintro e w8 ⟨rfl, hs⟩; have HS8 := Lib.hid hs; clear hs HCK))
                          go_roundw
                          case rel => exact ⟨k + 1, by omega, by go_num, HS8.out⟩
                          case measure => simp [intOf]; omega
                      · obtain rfl : Rn = k := by omega
                        have HS9 := Lib.hid hs
                        clear hs
                        go_wp2
                        go_ret
                        exact ⟨rfl, HS9.out.below⟩
  · by_cases hsm : n0 ≤ 40 ∧ n1 ≤ 120
    · have HSD := Lib.hid (show (decide (n0 ≤ 40) && decide (n1 ≤ 120)) = true by rw [decide_eq_true hsm.1, decide_eq_true hsm.2]; rfl)
      by_cases h60 : n3 ≤ 60
      · have hgt : ¬ (60 : Int) < (n3 : Int) := by omega
        have hgt2 : (10 : Int) < (n2 : Int) := by omega
        clear hsm hsmall
        go_wp2_with (first
          | (go_at_call 29; refine (fit14 _).mono ?_; rintro e w1 ⟨rfl, hC⟩; have hs1 := HS0.out.same hC; have p0 := (hs1.blk 0 rfl).cell 0; have p1 := (hs1.blk 0 rfl).cell 1; simp only [List.getElem?_toArray, List.getElem?_cons_zero, List.getElem?_cons_succ] at p0 p1; have HS1 := Lib.hid hs1; clear hC hs1 HS0)
          | (go_at_call 17; refine (Small11 _ A0 n0 c0 A1 n1 c1).mono ?_; rw [HSD.out]; rintro e w2 ⟨rfl, hC⟩; have HS2 := Lib.hid (HS1.out.same hC); clear hC HS1))
        go_ret
        exact ⟨rfl, HS2.out.below⟩
      · have hgt : (60 : Int) < (n3 : Int) := by omega
        clear hsm hsmall
        go_wp2_with (first
          | (go_at_call 29; refine (fit14 _).mono ?_; rintro e w1 ⟨rfl, hC⟩; have hs1 := HS0.out.same hC; have p0 := (hs1.blk 0 rfl).cell 0; have p1 := (hs1.blk 0 rfl).cell 1; simp only [List.getElem?_toArray, List.getElem?_cons_zero, List.getElem?_cons_succ] at p0 p1; have HS1 := Lib.hid hs1; clear hC hs1 HS0)
          | (go_at_call 17; refine (Small11 _ A0 n0 c0 A1 n1 c1).mono ?_; rw [HSD.out]; rintro e w2 ⟨rfl, hC⟩; have HS2 := Lib.hid (HS1.out.same hC); clear hC HS1))
        go_ret
        exact ⟨rfl, HS2.out.below⟩
    · have HSD := Lib.hid (show (decide (n0 ≤ 40) && decide (n1 ≤ 120)) = false by
        rw [Bool.and_eq_false_iff]
        by_cases h : n0 ≤ 40
        · exact .inr (decide_eq_false fun h2 => hsm ⟨h, h2⟩)
        · exact .inl (decide_eq_false h))
      clear hsm hsmall
      go_wp2_with (first
        | (go_at_call 29; refine (fit14 _).mono ?_; rintro e w1 ⟨rfl, hC⟩; have hs1 := HS0.out.same hC; have p0 := (hs1.blk 0 rfl).cell 0; have p1 := (hs1.blk 0 rfl).cell 1; simp only [List.getElem?_toArray, List.getElem?_cons_zero, List.getElem?_cons_succ] at p0 p1; have HS1 := Lib.hid hs1; clear hC hs1 HS0)
        | (go_at_call 17; refine (Small11 _ A0 n0 c0 A1 n1 c1).mono ?_; rw [HSD.out]; rintro e w2 ⟨rfl, hC⟩; have HS2 := Lib.hid (HS1.out.same hC); clear hC HS1))
      go_ret
      exact ⟨rfl, HS2.out.below⟩
end Go.Proofs.Ytacebfocfpbkdaa
