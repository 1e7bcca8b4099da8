/-
  Parts of the proof, joined: BlackP, Fit12, ByteBits, Bits8, SteeleRunsW. Conditions: as each part says.
-/
import Derived.Test.YtbcabjpafeocgaaL5
import Derived.Test.YtbcabjpafeocgaaL4
import Derived.StillTailTactics
import Derived.Test.YtbcabjpafeocgaaL1
import Derived.Laws.BitsAllLaws

/-
  Plain facts for layer 11's MarkBlacks. Conditions: as each theorem says.
-/
namespace Go.Proofs.Ytbcabjpafeocgaa
set_option linter.unusedVariables false
set_option linter.unusedSimpArgs false

def Col.blacks (C : Col) (l : List Nat) : Col := l.foldl Col.black C
/-- Those of l lead nowhere. -/
def cutT (T : Nat → List Nat) (l : List Nat) : Nat → List Nat := fun x => if x ∈ l then [] else T x
section
variable {pts : Nat → List Nat} {d : Nat} {C : Col} {l out : List Nat} {k x : Nat}
theorem blacks_next (h : l[k]? = some x) : (C.blacks (l.take k)).black x = C.blacks (l.take (k + 1)) := by
  rw [List.take_add_one, h]
  simp [Col.blacks]
theorem blacks_mz (l : List Nat) : ∀ (C : Col) (x : Nat), (C.blacks l).mz x = (C.mz x || decide (x ∈ l)) ∧ (C.blacks l).sc x = (C.sc x || decide (x ∈ l)) := by
  induction l with
  | nil => intro C x; simp [Col.blacks]
  | cons a l ih =>
    intro C x
    show ((C.black a).blacks l).mz x = _ ∧ ((C.black a).blacks l).sc x = _
    rw [(ih _ x).1, (ih _ x).2]
    simp only [Col.black, List.mem_cons]
    by_cases h1 : x = a <;> by_cases h2 : x ∈ l <;> simp [h1, h2]
theorem cutT_none (T : Nat → List Nat) : cutT T [] = T := by funext x; simp [cutT]
theorem cutT_next (T : Nat → List Nat) (h : l[k]? = some x) : updT (cutT T (l.take k)) x [] = cutT T (l.take (k + 1)) := by
  funext y
  rw [List.take_add_one, h]
  by_cases e : y = x
  · subst e; simp [updT, cutT]
  · simp [updT, cutT, e]
theorem mem_next (h : l[k]? = some x) : putB (fun y => decide (y ∈ l.take k)) x = fun y => decide (y ∈ l.take (k + 1)) := by
  funext y
  rw [List.take_add_one, h]
  simp [putB]
theorem Field_.cut {objs : List Nat} {T : Nat → List Nat} (h : Field_ objs T) (l : List Nat) : Field_ objs (cutT T l) :=
  ⟨h.nodup, h.few, h.lt, fun x => by
    unfold cutT
    split
    · simp
    · exact h.short x, fun x hx y hy => by
    unfold cutT at hy
    split at hy
    · cases hy
    · exact h.into x hx y hy⟩
/-- What black ones alone lead to stays white. -/
theorem blacks_end (h : Steps pts d ((Col.white.blacks l).shades out) C) (hno : ∀ x, C.grey x = false) (x : Nat) : C.mz x = true ↔ (Leads (cutT pts l) (fun x => x ∈ out) x ∨ x ∈ l) := by
  have hsc : ∀ x, ((Col.white.blacks l).shades out).sc x = decide (x ∈ l) := fun x => by rw [shades_sc, (blacks_mz l _ x).2]; simp [Col.white]
  have hmz : ∀ x, ((Col.white.blacks l).shades out).mz x = true ↔ (x ∈ l ∨ x ∈ out) := fun x => by rw [shades_mz, (blacks_mz l _ x).1]; simp [Col.white]
  have h2 : Steps (cutT pts l) d ((Col.white.blacks l).shades out) C := h.blind (fun x hx => by
    rw [hsc] at hx
    simp only [decide_eq_false_iff_not] at hx
    simp [cutT, hx])
  rw [h2.done hno (fun y hy z hz => by
    rw [hsc] at hy
    simp only [decide_eq_true_eq] at hy
    simp [cutT, hy] at hz) x]
  constructor
  · intro hl
    induction hl with
    | base hb =>
      rcases (hmz _).1 hb with h1 | h1
      · exact .inr h1
      · exact .inl (.base h1)
    | @step x y _ hy ih =>
      rcases ih with h1 | h1
      · exact .inl (.step h1 hy)
      · simp [cutT, h1] at hy
  · rintro (hl | hl)
    · exact leads_mono (fun x hx => (hmz x).2 (.inr hx)) (fun _ _ h => h) x hl
    · exact .base ((hmz x).2 (.inl hl))
end
end Go.Proofs.Ytbcabjpafeocgaa

/-
  fit of layer 12. Conditions: as the theorem says.
-/
namespace Go.Proofs.Ytbcabjpafeocgaa
set_option linter.unusedVariables false
set_option linter.unusedSimpArgs false
open Go.RowKit Go.Shelf

theorem twos12 (w : World) (m : Nat) (cs : List Value) (hc : cs = List.replicate m (.int .u8 2)) : ArgI (w.alloc (.cells cs.toArray 5)) (some ⟨w.heap.size, 0, none⟩) m [.u8] (fun _ _ => 2) := by
  intro i hi
  refine ⟨w.heap.size, 0, rfl, by simp, fun j q hq => ?_⟩
  match j, hq with
  | 0, hq =>
    simp at hq
    subst hq
    refine ⟨?_, show (Lit.int .u8 2).wf = true by decide⟩
    have h := (Blk.new w 5 cs.toArray).cell i
    show (w.alloc (.cells cs.toArray 5)).cell? ⟨w.heap.size, 0 + i * 1 + 0, none⟩ = some (.int .u8 2)
    rw [show 0 + i * 1 + 0 = i by omega, h, hc]
    simp [hi]
theorem argI_none12 (w : World) (qs : List IntKind) : ArgI w none 0 qs (fun _ _ => 0) := fun i hi => absurd hi (by omega)
theorem elems_none (n : Nat) : (elems n (fun _ => false)).length = 0 := by unfold elems; simp
theorem Gr.tk12 {A : AR} {rs : List Nat} {fs : Nat → List Nat} (h : Gr A rs fs) {x : Nat} (hx : x ∈ rs) : A.tk x = true := by
  obtain ⟨_, ho⟩ := h.heap.obj x hx
  exact ho.tk
theorem Gr.pageZ {A : AR} {rs : List Nat} {fs : Nat → List Nat} (h : Gr A rs fs) {x : Nat} (hx : x ∈ rs) : A.page (x : Int) = (((x - 1) / 32 : Nat) : Int) ∧ (x - 1) / 32 < 64 := by
  obtain ⟨q, kq, hq, _, _, _, _, hpq, _, hdq⟩ := h.heap.wf.at_ (h.tk12 hx)
  rw [hdq]
  exact ⟨hpq, by rw [← h.n]; exact hq⟩
set_option maxRecDepth 100000 in
set_option maxHeartbeats 4000000 in
theorem fit12 (w : World) : Calls Try.prog 43 #[] w fun e w' => e = .returned (.bool true) ∧ Chg [] w w' := by
  obtain ⟨W, hW⟩ : ∃ W, w.alloc (.cells #[.int .u8 2, .int .u8 2] 5) = W := ⟨_, rfl⟩
  have hz := twos12 w 2 [.int .u8 2, .int .u8 2] rfl
  simp only [List.toArray] at hz
  have hch := (Chg.refl [] w).alloc (.cells #[.int .u8 2, .int .u8 2] 5)
  rw [hW] at hch
  have hz' : ArgI W (some ⟨w.heap.size, 0, none⟩) 2 [.u8] (fun _ _ => 2) := by rw [← hW]; exact hz
  have HCH := Lib.hid hch
  have HMD := Lib.hid (Made11 (some ⟨w.heap.size, 0, none⟩) 2 2 (fun _ _ => 2) none 0 0 (fun _ _ => 0) hz' (argI_none12 W _) (by omega) (by omega) (Sep.start W))
  have hro : Try.prog.follows .mixedOrders = true := by kernel_rfl
  clear hz hz' hch
  go_enter Try.func43, Try.ntmps43
  go_wp2_with (first
    | (go_at_call 14; refine (HMD.out).mono ?_; rintro e w3 ⟨a, b, v, A, rs, fs, rfl, hgr, hlen, hs⟩; obtain ⟨x, y, rfl⟩ : ∃ x y, rs = [x, y] := (by match rs, hlen with | [x, y], _ => exact ⟨x, y, rfl⟩); have HGR := Lib.hid hgr; obtain ⟨g, capl, hv, _, _⟩ := hs.rowSome 1 rfl (by simp); rw [hv] at hs ⊢; have HX2 := Lib.hid (hgr.lt (x := x) (by simp)); have HY2 := Lib.hid (hgr.lt (x := y) (by simp)); have HN := Lib.hid (show A.n ≤ 1000 by rw [hgr.n]; omega); have HS3 := Lib.hid hs; clear hs hgr hlen hv HMD)
    | (go_at_call 15; refine (KNew HS3.out 0 rfl HGR.out.size (by omega) 4 (by omega)).mono ?_; rintro e w4 ⟨m, rfl, hs⟩; have HC := Lib.hid (BNew hs 0 1 rfl rfl); clear hs HS3)
    | (go_at_call 45; refine (HC.out).mono ?_; rintro e w5 ⟨bb, rfl, hs⟩; have hs' := (show Sep W w5 (steeleR bb m a A.n (fun _ => false) :: markR m a 2049 (Col.white) :: arenaR a A :: rowR 35 1 (.slice (some ⟨g, 0, none⟩) 2 capl) 2 (nums [x, y]) :: adjR Try.prog 35 35 b (ptsOf fs) :: []) from hs); have x0 := hs'.rowCell 3 rfl 0 _ (nums_get [x, y] 0 x rfl); have x1 := hs'.rowCell 3 rfl 1 _ (nums_get [x, y] 1 y rfl); have HCB := Lib.hid (KBlacken hs' 1 rfl x HX2.out.1 HX2.out.2); clear hs hs' HC)
    | (go_at_call 16; refine (HCB.out).mono ?_; rintro e w6 ⟨rfl, hs⟩; clear x0 x1; have hs' := (show Sep W w6 (steeleR bb m a A.n (fun _ => false) :: markR m a 2049 (Col.white.black x) :: arenaR a A :: rowR 35 1 (.slice (some ⟨g, 0, none⟩) 2 capl) 2 (nums [x, y]) :: adjR Try.prog 35 35 b (ptsOf fs) :: []) from hs); have x0 := hs'.rowCell 3 rfl 0 _ (nums_get [x, y] 0 x rfl); have x1 := hs'.rowCell 3 rfl 1 _ (nums_get [x, y] 1 y rfl); have hsc := KScanned hs' 1 rfl x HX2.out.2; rw [show (Col.white.black x).sc x = true by simp [Col.black]] at hsc; have HSC := Lib.hid hsc; clear hs hs' hsc HCB)
    | (go_at_call 75; refine (BRescans _ bb).mono ?_; rintro e w6_ ⟨rfl, rfl⟩)
    | (go_at_call 35; refine (HSC.out).mono ?_; rintro e w7 ⟨rfl, hs⟩; clear x0 x1; have HS7 := Lib.hid (show Sep W w7 (steeleR bb m a A.n (fun _ => false) :: markR m a 2049 (Col.white.black x) :: arenaR a A :: rowR 35 1 (.slice (some ⟨g, 0, none⟩) 2 capl) 2 (nums [x, y]) :: adjR Try.prog 35 35 b (ptsOf fs) :: []) from hs); clear hs HSC))
  obtain ⟨wd1, hwd1⟩ : ∃ wd, (w7).drew = wd := ⟨_, rfl⟩
  have hd := HS7.out.drew
  rw [hwd1] at hd
  have x0 := hd.rowCell 3 rfl 0 _ (nums_get [x, y] 0 x rfl)
  have x1 := hd.rowCell 3 rfl 1 _ (nums_get [x, y] 1 y rfl)
  have HS8 := Lib.hid hd
  clear hd HS7
  refine wp_region_still_tail 8 (by kernel_rfl) (by kernel_rfl) ?_
  change wpStill _ _ (World.drew _) (fun a' => wpList _ _ _ _ a' (World.drew _)) _ _
  rw [hwd1]
  clear hwd1
  simp only [List.take_succ_cons, List.take_zero, List.drop_succ_cons, List.drop_zero]
  repeat still_step
  refine wpStill_nil ?_
  have HPO := Lib.hid (BPost HS8.out 0 2 rfl rfl (by decide) HN.out (x : Int) 0 (y : Int) false false (by have := HX2.out; omega))
  clear x0 x1
  have hpg := HGR.out.pageZ (x := x) (by simp)
  have HDL := Lib.hid (dirtied_lt (A := A) (D := fun _ => false) (p := A.page (x : Int)) (fun i h => by cases h) (by rw [hpg.1, HGR.out.n]; omega))
  have HG1 := Lib.hid (show ((Col.white.black x).greyD A (dirtied (fun _ => false) (A.page (x : Int)))).sc x = false by
    unfold Col.greyD dirtied
    rw [hpg.1]
    simp [HGR.out.tk12 (x := x) (by simp)])
  have HG2 := Lib.hid (show ((Col.white.black x).greyD A (dirtied (fun _ => false) (A.page (x : Int)))).mz x = true by simp [Col.greyD, Col.black])
  have HG3 := Lib.hid (show ((Col.white.black x).greyD A (dirtied (fun _ => false) (A.page (x : Int)))).mz y = false by
    have hne : y ≠ x := fun e => by have := HGR.out.nodup; rw [e] at this; simp at this
    simp [Col.greyD, Col.black, Col.white, hne])
  clear hpg
  go_wp2_with (first
    | (go_at_call 47; refine (HPO.out).mono ?_; rintro e w8 ⟨rfl, hs⟩; have hs' := (show Sep W w8 (steeleR bb m a A.n (dirtied (fun _ => false) (A.page (x : Int))) :: markR m a 2049 (Col.white.black x) :: arenaR a A :: rowR 35 1 (.slice (some ⟨g, 0, none⟩) 2 capl) 2 (nums [x, y]) :: adjR Try.prog 35 35 b (ptsOf fs) :: []) from hs); have HRM := Lib.hid (BRemark HGR.out.heap.wf HGR.out.size HN.out HDL.out hs'); clear hs hs' HPO)
    | (go_at_call 49; refine (HRM.out).mono ?_; rintro e w9 ⟨rfl, hs⟩; have hs' := (show Sep W w9 (steeleR bb m a A.n (fun _ => false) :: markR m a 2049 ((Col.white.black x).greyD A (dirtied (fun _ => false) (A.page (x : Int)))) :: arenaR a A :: rowR 35 1 (.slice (some ⟨g, 0, none⟩) 2 capl) 2 (nums [x, y]) :: adjR Try.prog 35 35 b (ptsOf fs) :: []) from hs); have x0 := hs'.rowCell 3 rfl 0 _ (nums_get [x, y] 0 x rfl); have x1 := hs'.rowCell 3 rfl 1 _ (nums_get [x, y] 1 y rfl); have hsc := KScanned hs' 1 rfl x HX2.out.2; rw [HG1.out] at hsc; have HSC := Lib.hid hsc; clear hs hs' hsc HRM)
    | (go_at_call 35; refine (HSC.out).mono ?_; rintro e w10 ⟨rfl, hs⟩; clear x0 x1; have hs' := (show Sep W w10 (steeleR bb m a A.n (fun _ => false) :: markR m a 2049 ((Col.white.black x).greyD A (dirtied (fun _ => false) (A.page (x : Int)))) :: arenaR a A :: rowR 35 1 (.slice (some ⟨g, 0, none⟩) 2 capl) 2 (nums [x, y]) :: adjR Try.prog 35 35 b (ptsOf fs) :: []) from hs); have x0 := hs'.rowCell 3 rfl 0 _ (nums_get [x, y] 0 x rfl); have x1 := hs'.rowCell 3 rfl 1 _ (nums_get [x, y] 1 y rfl); have hsc := KMarked hs' 1 rfl x HX2.out.2; rw [HG2.out] at hsc; have HM1 := Lib.hid hsc; clear hs hs' hsc HSC)
    | (go_at_call 32; refine (HM1.out).mono ?_; rintro e w11 ⟨rfl, hs⟩; clear x0 x1; have hs' := (show Sep W w11 (steeleR bb m a A.n (fun _ => false) :: markR m a 2049 ((Col.white.black x).greyD A (dirtied (fun _ => false) (A.page (x : Int)))) :: arenaR a A :: rowR 35 1 (.slice (some ⟨g, 0, none⟩) 2 capl) 2 (nums [x, y]) :: adjR Try.prog 35 35 b (ptsOf fs) :: []) from hs); have x0 := hs'.rowCell 3 rfl 0 _ (nums_get [x, y] 0 x rfl); have x1 := hs'.rowCell 3 rfl 1 _ (nums_get [x, y] 1 y rfl); have hsc := KMarked hs' 1 rfl y HY2.out.2; rw [HG3.out] at hsc; have HM2 := Lib.hid hsc; clear hs hs' hsc HM1)
    | (go_at_call 32; refine (HM2.out).mono ?_; rintro e w12 ⟨rfl, hs⟩; clear x0 x1; have hs' := (show Sep W w12 (steeleR bb m a A.n (fun _ => false) :: markR m a 2049 ((Col.white.black x).greyD A (dirtied (fun _ => false) (A.page (x : Int)))) :: arenaR a A :: rowR 35 1 (.slice (some ⟨g, 0, none⟩) 2 capl) 2 (nums [x, y]) :: adjR Try.prog 35 35 b (ptsOf fs) :: []) from hs); have hsc := BDirty hs' 0 rfl HN.out; rw [elems_none] at hsc; have HDI := Lib.hid hsc; clear hs hs' hsc HM2)
    | (go_at_call 48; refine (HDI.out).mono ?_; rintro e w13 ⟨rfl, hs⟩; have HS9 := Lib.hid hs; clear hs HDI))
  go_ret
  exact ⟨by first | rfl | simp, HCH.out.trans HS9.out.chg (by simp)⟩
end Go.Proofs.Ytbcabjpafeocgaa

/-
  The bits of a byte, as the walk spells them. Conditions: numbers between 0 and 255.
-/
namespace Go.Proofs.Ytbcabjpafeocgaa
open Go.RowKit

/-- Bit t of x. -/
def bitZ (x t : Int) : Bool := bits .and .u8 (x / 2 ^ t.toNat) 1 == 1

theorem bit_nat (x t : Nat) (hx : x < 256) : bitZ (x : Int) (t : Int) = x.testBit t := by
  have hd : x / 2 ^ t < 256 := Nat.lt_of_le_of_lt (Nat.div_le_self _ _) hx
  unfold bitZ
  rw [Int.toNat_natCast]
  have h1 : ((x : Int) / 2 ^ t) = ((x / 2 ^ t : Nat) : Int) := by simp
  rw [h1]
  have h2 := u8_and_nat (x / 2 ^ t) 1 hd (by omega)
  rw [show ((1 : Nat) : Int) = 1 from rfl] at h2
  rw [h2, Nat.and_one_is_mod, Nat.testBit_eq_decide_div_mod_eq]
  rw [Bool.eq_iff_iff]
  simp
  omega

theorem byte_nat {x : Int} (h0 : 0 ≤ x) (h1 : x ≤ 255) : ∃ n : Nat, x = n ∧ n < 256 := ⟨x.toNat, by omega, by omega⟩

theorem bit_and {x y t : Int} (hx0 : 0 ≤ x) (hx1 : x ≤ 255) (hy0 : 0 ≤ y) (hy1 : y ≤ 255) (ht : 0 ≤ t) : bitZ (bits .and .u8 x y) t = (bitZ x t && bitZ y t) := by
  obtain ⟨a, rfl, ha⟩ := byte_nat hx0 hx1
  obtain ⟨b, rfl, hb⟩ := byte_nat hy0 hy1
  obtain ⟨k, rfl⟩ := Int.eq_ofNat_of_zero_le ht
  rw [u8_and_nat a b ha hb, bit_nat _ _ (Nat.lt_of_le_of_lt Nat.and_le_left ha), bit_nat _ _ ha, bit_nat _ _ hb, Nat.testBit_and]

theorem or_lt {a b : Nat} (ha : a < 256) (hb : b < 256) : a ||| b < 256 := Nat.or_lt_two_pow (n := 8) ha hb

theorem bit_or {x y t : Int} (hx0 : 0 ≤ x) (hx1 : x ≤ 255) (hy0 : 0 ≤ y) (hy1 : y ≤ 255) (ht : 0 ≤ t) : bitZ (bits .or .u8 x y) t = (bitZ x t || bitZ y t) := by
  obtain ⟨a, rfl, ha⟩ := byte_nat hx0 hx1
  obtain ⟨b, rfl, hb⟩ := byte_nat hy0 hy1
  obtain ⟨k, rfl⟩ := Int.eq_ofNat_of_zero_le ht
  rw [u8_or_nat a b ha hb, bit_nat _ _ (or_lt ha hb), bit_nat _ _ ha, bit_nat _ _ hb, Nat.testBit_or]

theorem and_byte {x y : Int} (hx0 : 0 ≤ x) (hx1 : x ≤ 255) (hy0 : 0 ≤ y) (hy1 : y ≤ 255) : 0 ≤ bits .and .u8 x y ∧ bits .and .u8 x y ≤ 255 := by
  obtain ⟨a, rfl, ha⟩ := byte_nat hx0 hx1
  obtain ⟨b, rfl, hb⟩ := byte_nat hy0 hy1
  rw [u8_and_nat a b ha hb]
  have : a &&& b ≤ a := Nat.and_le_left
  omega

theorem or_byte {x y : Int} (hx0 : 0 ≤ x) (hx1 : x ≤ 255) (hy0 : 0 ≤ y) (hy1 : y ≤ 255) : 0 ≤ bits .or .u8 x y ∧ bits .or .u8 x y ≤ 255 := by
  obtain ⟨a, rfl, ha⟩ := byte_nat hx0 hx1
  obtain ⟨b, rfl, hb⟩ := byte_nat hy0 hy1
  rw [u8_or_nat a b ha hb]
  have := or_lt ha hb
  omega

theorem bit_0 (x : Int) : (bits .and .u8 x 1 == 1) = bitZ x 0 := by unfold bitZ; simp
theorem bit_1 (x : Int) : (bits .and .u8 (x / 2) 1 == 1) = bitZ x 1 := rfl
theorem bit_2 (x : Int) : (bits .and .u8 (x / 4) 1 == 1) = bitZ x 2 := rfl
theorem bit_3 (x : Int) : (bits .and .u8 (x / 8) 1 == 1) = bitZ x 3 := rfl

theorem bit_zero (x : Int) (t : Nat) (h0 : 0 ≤ x) (h1 : x ≤ 255) : (bits .and .u8 (x / 2 ^ t) 1 == 0) = !bitZ x t := by
  obtain ⟨a, rfl, ha⟩ := byte_nat h0 h1
  have hd : a / 2 ^ t < 256 := Nat.lt_of_le_of_lt (Nat.div_le_self _ _) ha
  have e : ((a : Int) / 2 ^ t) = ((a / 2 ^ t : Nat) : Int) := by simp
  have h2 := u8_and_nat (a / 2 ^ t) 1 hd (by omega)
  rw [show ((1 : Nat) : Int) = 1 from rfl] at h2
  unfold bitZ
  rw [Int.toNat_natCast, e, h2, Nat.and_one_is_mod]
  rw [Bool.eq_iff_iff]
  simp
  omega
theorem bitz_0 (x : Int) (h0 : 0 ≤ x) (h1 : x ≤ 255) : (bits .and .u8 x 1 == 0) = !bitZ x 0 := by simpa using bit_zero x 0 h0 h1
theorem bitz_1 (x : Int) (h0 : 0 ≤ x) (h1 : x ≤ 255) : (bits .and .u8 (x / 2) 1 == 0) = !bitZ x 1 := bit_zero x 1 h0 h1
theorem bitz_2 (x : Int) (h0 : 0 ≤ x) (h1 : x ≤ 255) : (bits .and .u8 (x / 4) 1 == 0) = !bitZ x 2 := bit_zero x 2 h0 h1
theorem bitz_3 (x : Int) (h0 : 0 ≤ x) (h1 : x ≤ 255) : (bits .and .u8 (x / 8) 1 == 0) = !bitZ x 3 := bit_zero x 3 h0 h1

end Go.Proofs.Ytbcabjpafeocgaa

/-
  Masks of a byte. Conditions: numbers between 0 and 255.
-/
namespace Go.Proofs.Ytbcabjpafeocgaa
set_option linter.unusedVariables false
open Go.RowKit

theorem and8_of {x : Int} (h : 0 ≤ x ∧ x ≤ 255) (m : Nat) (hm : m < 256) (f : Nat → Nat) (hf : ∀ n : Nat, n < 256 → n &&& m = f n) : bits .and .u8 x (m : Int) = (f x.toNat : Int) := by
  obtain ⟨n, rfl, hn⟩ := byte_nat h.1 h.2
  rw [u8_and_nat n m hn hm, hf n hn]
  simp
set_option maxRecDepth 10000 in
theorem and8_1 {x : Int} (h : 0 ≤ x ∧ x ≤ 255) : bits .and .u8 x 1 = x % 2 := by
  have := and8_of h 1 (by decide) (fun n => n % 2) (fun n _ => Nat.and_two_pow_sub_one_eq_mod n 1)
  rw [show ((1 : Nat) : Int) = 1 from rfl] at this
  rw [this]; omega
theorem and8_3 {x : Int} (h : 0 ≤ x ∧ x ≤ 255) : bits .and .u8 x 3 = x % 4 := by
  have := and8_of h 3 (by decide) (fun n => n % 4) (fun n _ => Nat.and_two_pow_sub_one_eq_mod n 2)
  rw [show ((3 : Nat) : Int) = 3 from rfl] at this
  rw [this]; omega
theorem and8_7 {x : Int} (h : 0 ≤ x ∧ x ≤ 255) : bits .and .u8 x 7 = x % 8 := by
  have := and8_of h 7 (by decide) (fun n => n % 8) (fun n _ => Nat.and_two_pow_sub_one_eq_mod n 3)
  rw [show ((7 : Nat) : Int) = 7 from rfl] at this
  rw [this]; omega
theorem and8_15 {x : Int} (h : 0 ≤ x ∧ x ≤ 255) : bits .and .u8 x 15 = x % 16 := by
  have := and8_of h 15 (by decide) (fun n => n % 16) (fun n _ => Nat.and_two_pow_sub_one_eq_mod n 4)
  rw [show ((15 : Nat) : Int) = 15 from rfl] at this
  rw [this]; omega
theorem all256 {p : Nat → Prop} [DecidablePred p] (h : (List.range 256).all (fun n => decide (p n)) = true) : ∀ n : Nat, n < 256 → p n := by
  intro n hn
  have := List.all_eq_true.1 h n (List.mem_range.2 hn)
  exact of_decide_eq_true this
theorem and8_4 {x : Int} (h : 0 ≤ x ∧ x ≤ 255) : bits .and .u8 x 4 = 4 * (x / 4 % 2) := by
  have := and8_of h 4 (by decide) (fun n => 4 * (n / 4 % 2)) (all256 (by decide +kernel))
  rw [show ((4 : Nat) : Int) = 4 from rfl] at this
  rw [this]; omega
theorem and8_8 {x : Int} (h : 0 ≤ x ∧ x ≤ 255) : bits .and .u8 x 8 = 8 * (x / 8 % 2) := by
  have := and8_of h 8 (by decide) (fun n => 8 * (n / 8 % 2)) (all256 (by decide +kernel))
  rw [show ((8 : Nat) : Int) = 8 from rfl] at this
  rw [this]; omega
theorem and8_16 {x : Int} (h : 0 ≤ x ∧ x ≤ 255) : bits .and .u8 x 16 = 16 * (x / 16 % 2) := by
  have := and8_of h 16 (by decide) (fun n => 16 * (n / 16 % 2)) (all256 (by decide +kernel))
  rw [show ((16 : Nat) : Int) = 16 from rfl] at this
  rw [this]; omega
theorem and8_12 {x : Int} (h : 0 ≤ x ∧ x ≤ 255) : bits .and .u8 x 12 = 4 * (x / 4 % 4) := by
  have := and8_of h 12 (by decide) (fun n => 4 * (n / 4 % 4)) (all256 (by decide +kernel))
  rw [show ((12 : Nat) : Int) = 12 from rfl] at this
  rw [this]; omega
theorem and8_24 {x : Int} (h : 0 ≤ x ∧ x ≤ 255) : bits .and .u8 x 24 = 8 * (x / 8 % 4) := by
  have := and8_of h 24 (by decide) (fun n => 8 * (n / 8 % 4)) (all256 (by decide +kernel))
  rw [show ((24 : Nat) : Int) = 24 from rfl] at this
  rw [this]; omega
end Go.Proofs.Ytbcabjpafeocgaa

/-
  The walk of SteeleRuns. Conditions: as the theorem says.
-/
namespace Go.Proofs.Ytbcabjpafeocgaa
set_option linter.unusedVariables false
set_option linter.unusedSimpArgs false
open Go.RowKit Go.Shelf

theorem intIntOk : MapOk Try.prog 34 3 3 .i64 .i64 :=
  ⟨Try.underlying34, Try.underlying3, Try.underlying3, fun w => by
    obtain ⟨i, hi, hz⟩ := Option.map_eq_some_iff.1 (show (Try.prog.info? 3).map (fun i => i.zero) = some (some (.int .i64 0)) by kernel_rfl)
    simp [zeroValue, typeInfo, hi, hz]⟩
theorem boolsInfo : (Try.prog.info? 69).map (fun i => (i.zero, i.size, i.bytes)) = some (some (.agg #[.bool false, .bool false]), 2, 2) := by kernel_rfl
theorem dirtied_zero (A : AR) (D : Nat → Bool) : dirtied D (A.page 0) = D := dirtied_none D (by unfold AR.page; rw [if_neg (fun h => absurd h.1 (by omega))]; omega)
/-- Two bools of each. -/
def wasC (C : Col) (l : List Nat) : List Value := l.flatMap fun x => [.bool (C.mz x), .bool (C.sc x)]
theorem wasC_push (C : Col) (l : List Nat) (x : Nat) : wasC C (l ++ [x]) = wasC C l ++ [.bool (C.mz x), .bool (C.sc x)] := by simp [wasC]
theorem wasC_get (C : Col) : ∀ (l : List Nat) (k x : Nat), l[k]? = some x → (wasC C l)[k * 2]? = some (.bool (C.mz x)) ∧ (wasC C l)[k * 2 + 1]? = some (.bool (C.sc x))
  | [], k, x, h => by simp at h
  | a :: l, 0, x, h => by simp at h; subst h; simp [wasC]
  | a :: l, k + 1, x, h => by
    have h1 := wasC_get C l k x (by simpa using h)
    have e : wasC C (a :: l) = .bool (C.mz a) :: .bool (C.sc a) :: wasC C l := by simp [wasC]
    rw [e, show (k + 1) * 2 = k * 2 + 1 + 1 by omega]
    exact h1
theorem dirtied_putB (D : Nat → Bool) (q : Nat) : dirtied D (q : Int) = putB D q := by
  funext x
  unfold dirtied putB
  by_cases e : x = q
  · subst e; simp
  · rw [decide_eq_false (by omega)]; simp [e]
theorem elems_putB {D : Nat → Bool} {n q : Nat} (hq : q < n) : (elems n (putB D q)).length = if D q = true then (elems n D).length else (elems n D).length + 1 := by
  unfold elems
  rw [← List.countP_eq_length_filter, ← List.countP_eq_length_filter]
  split
  · rename_i h
    refine countP_same (fun x _ => ?_)
    unfold putB
    by_cases e : x = q
    · subst e; simp [h]
    · simp [e]
  · rename_i h
    refine countP_up hq (by simpa using h) (by simp [putB]) (fun x _ hne => by simp [putB, hne])
theorem elems_few12 (n : Nat) (S : Nat → Bool) : (elems n S).length ≤ n := by
  unfold elems
  refine Nat.le_trans (List.length_filter_le _ _) ?_
  simp
set_option maxRecDepth 100000 in
set_option maxHeartbeats 16000000 in
theorem steeleRuns_walk (A0 : Option Addr) (n0 c0 : Nat) (D0 : Nat → Nat → Int) (A1 : Option Addr) (n1 c1 : Nat) (D1 : Nat → Nat → Int) (A2 : Option Addr) (n2 c2 : Nat) (D2 : Nat → Nat → Int) (A3 : Option Addr) (n3 c3 : Nat) (D3 : Nat → Nat → Int) (w : World) (hz0 : ArgI w A0 n0 [.u8] D0) (hm0 : n0 ≤ maxLen) (hz1 : ArgI w A1 n1 [.u16, .u16, .u16] D1) (hm1 : n1 ≤ maxLen) (hz2 : ArgI w A2 n2 [.u8] D2) (hm2 : n2 ≤ maxLen) (hz3 : ArgI w A3 n3 [.u8] D3) (hm3 : n3 ≤ maxLen) :
    Calls Try.prog 11 #[.agg #[.slice A0 n0 c0, .slice A1 n1 c1], .slice A2 n2 c2, .slice A3 n3 c3] w fun e w' => e = .returned (.bool true) ∧ Below w.heap.size w w' := by
  have HZ0 := Lib.hid hz0
  have HZ1 := Lib.hid hz1
  have HZ2 := Lib.hid hz2
  have HZ3 := Lib.hid hz3
  unfold maxLen at hm0 hm1
  try unfold maxLen at hm2
  try unfold maxLen at hm3
  clear hz0 hz1 hz2 hz3
  obtain ⟨T, hT⟩ : ∃ T, w.heap.size = T := ⟨_, rfl⟩
  have hmm := @run_makeMap Try.prog
  have hs0 := (Sep.start w).box #[.slice A0 n0 c0, .slice A1 n1 c1] 25
  rw [hT] at hs0
  have HS0 := Lib.hid hs0
  clear hs0
  go_enter Try.func11, Try.ntmps11
  by_cases hsmall : n0 ≤ 40 ∧ n1 ≤ 120 ∧ n3 ≤ 40
  · have hsd : (decide (n0 ≤ 40) && decide (n1 ≤ 120)) = true := by rw [decide_eq_true hsmall.1, decide_eq_true hsmall.2.1]; rfl
    have HSD := Lib.hid hsd
    obtain ⟨hn0, hn1, hn3⟩ := hsmall
    have hn30 : ¬ (40 : Int) < (n3 : Int) := by omega
    clear hsd
    go_wp2_with (first
      | (go_at_call 43; refine (fit12 _).mono ?_; rintro e w1 ⟨rfl, hC⟩; have hs1 := HS0.out.same hC; have p0 := (hs1.blk 0 rfl).cell 0; have p1 := (hs1.blk 0 rfl).cell 1; simp only [List.getElem?_toArray, List.getElem?_cons_zero, List.getElem?_cons_succ] at p0 p1; have HS1 := Lib.hid hs1; clear hC hs1 HS0)
      | (go_at_call 13; refine (Small11 _ A0 n0 c0 A1 n1 c1).mono ?_; rw [HSD.out]; rintro e w2 ⟨rfl, hC⟩; have hs1 := HS1.out.same hC; have p0 := (hs1.blk 0 rfl).cell 0; have p1 := (hs1.blk 0 rfl).cell 1; simp only [List.getElem?_toArray, List.getElem?_cons_zero, List.getElem?_cons_succ] at p0 p1; have HS2 := Lib.hid hs1; clear hC hs1 HS1)
      | (go_at_call 14; refine (Made11 A0 n0 c0 D0 A1 n1 c1 D1 HZ0.out HZ1.out hn0 hn1 HS2.out).mono ?_; rintro e w3 ⟨a, b, v, A, rs, fs, rfl, hgr, hlen, hs⟩; have p0 := (hs.blk 3 rfl).cell 0; have p1 := (hs.blk 3 rfl).cell 1; simp only [List.getElem?_toArray, List.getElem?_cons_zero, List.getElem?_cons_succ] at p0 p1; have HGR := Lib.hid hgr; obtain ⟨AL, capl, rfl, hcapl, hmcapl⟩ := hs.rowShape 1 rfl; unfold maxLen at hmcapl; obtain ⟨Rn, hRn⟩ : ∃ Rn, rs.length = Rn := ⟨_, rfl⟩; have HRN := Lib.hid hRn; rw [hRn] at hcapl hs; try rw [hRn]; rw [hRn] at hlen; have hl40 : Rn ≤ 40 := (by omega); have HLEN := Lib.hid hlen; have HS3 := Lib.hid hs; clear hs hgr HS2 hRn hlen)
      | (go_at_call 15; refine (KNew HS3.out 0 rfl HGR.out.size (by omega) 64 (by omega)).mono ?_; rintro e w4 ⟨m, rfl, hs⟩; have HS5 := Lib.hid hs; clear hs HS3))
    go_loopw [44] (fun i wr => ∃ (k : Nat) (C : Col), k ≤ Rn ∧ i = .int .i64 k ∧ Sep w wr (markR m a 2049 (C) :: arenaR a A :: rowR 35 1 (.slice AL Rn capl) Rn (nums rs) :: adjR Try.prog 35 35 b (ptsOf fs) :: blkR T 25 #[.slice A0 n0 c0, .slice A1 n1 c1] :: [])) (fun i _ => Rn + 1 - (intOf i).toNat)
    case atStart => exact ⟨0, _, by omega, rfl, HS5.out⟩
    case round =>
      clear HS5
      obtain ⟨k, C, hk, rfl, hs⟩ := hrel
      by_cases hlt : k < Rn
      · have hltI : (k : Int) < (Rn : Int) := by omega
        obtain ⟨x, hx⟩ : ∃ z_, rs[k]? = some z_ := ⟨_, List.getElem?_eq_getElem (by rw [HRN.out]; exact hlt)⟩
        obtain ⟨g, cap', hsl, _, _⟩ := hs.rowSome 2 rfl (by omega)
        simp only [Value.slice.injEq] at hsl
        obtain ⟨rfl, _, rfl⟩ := hsl
        have cx := hs.rowCell 2 rfl k _ (nums_get _ _ _ hx)
        have hx2 := HGR.out.lt (List.mem_of_getElem? hx)
        by_cases hlt2 : k < n2
        · have hlt2I : (k : Int) < (n2 : Int) := by omega
          obtain ⟨ab, ao, hA0, hcell⟩ := HZ2.out.at_ hs.own hlt2
          subst hA0
          have hc0 := hcell 0 _ rfl
          have hw0 := wf8 (HZ2.out.wf hlt2 0 .u8 rfl)
          simp at hc0
          obtain ⟨d0, h0⟩ : ∃ d, D2 k 0 = d := ⟨_, rfl⟩
          rw [h0] at hc0 hw0
          clear hcell h0
          obtain ⟨c0_, hc0_, hc0_l⟩ : ∃ q : Nat, d0 % 3 = (q : Int) ∧ q ≤ 2 := ⟨(d0 % 3).toNat, by omega, by omega⟩
          have hc0_t : d0.tmod 3 = (c0_ : Int) := by rw [Int.tmod_eq_emod_of_nonneg (by omega)]; exact hc0_
          have hcc : c0_ = 0 ∨ c0_ = 1 ∨ c0_ = 2 := by omega
          rcases hcc with rfl | rfl | rfl
          · have HS7 := Lib.hid hs
            clear hs hx
            go_wp2
            go_roundw
            case rel => exact ⟨k + 1, _, by omega, by go_num, HS7.out⟩
            case measure => simp [intOf]; omega
          · have HX := Lib.hid (KShade hs 0 rfl x hx2.1 hx2.2)
            clear hs hx
            go_wp2_with (go_at_call 44; refine (HX.out).mono ?_; rintro e w7 ⟨rfl, hs⟩; have HS7 := Lib.hid (show Sep w w7 (markR m a 2049 (C.shade x) :: arenaR a A :: rowR 35 1 (.slice (some ⟨g, 0, none⟩) Rn capl) Rn (nums rs) :: adjR Try.prog 35 35 b (ptsOf fs) :: blkR T 25 #[.slice A0 n0 c0, .slice A1 n1 c1] :: []) from hs); clear hs HX)
            go_roundw
            case rel => exact ⟨k + 1, _, by omega, by go_num, HS7.out⟩
            case measure => simp [intOf]; omega
          · have HX := Lib.hid (KBlacken hs 0 rfl x hx2.1 hx2.2)
            clear hs hx
            go_wp2_with (go_at_call 16; refine (HX.out).mono ?_; rintro e w7 ⟨rfl, hs⟩; have HS7 := Lib.hid (show Sep w w7 (markR m a 2049 (C.black x) :: arenaR a A :: rowR 35 1 (.slice (some ⟨g, 0, none⟩) Rn capl) Rn (nums rs) :: adjR Try.prog 35 35 b (ptsOf fs) :: blkR T 25 #[.slice A0 n0 c0, .slice A1 n1 c1] :: []) from hs); clear hs HX)
            go_roundw
            case rel => exact ⟨k + 1, _, by omega, by go_num, HS7.out⟩
            case measure => simp [intOf]; omega
        · have hlt2I : ¬ (k : Int) < (n2 : Int) := by omega
          have HS7 := Lib.hid hs
          clear hs hx
          go_wp2
          go_roundw
          case rel => exact ⟨k + 1, _, by omega, by go_num, HS7.out⟩
          case measure => simp [intOf]; omega
      · obtain rfl : Rn = k := by omega
        have HB := Lib.hid (BNew hs 0 1 rfl rfl)
        clear hs
        go_wp2_with (go_at_call 45; refine (HB.out).mono ?_; rintro e w5 ⟨bb, rfl, hs⟩; obtain ⟨mi, hmi⟩ : ∃ mi, w5.heap.size = mi := ⟨_, rfl⟩; have hs5 := hs.newMap Try.prog 34 3 3 .i64 .i64; rw [hmi] at hs5; have HS5a := Lib.hid hs5; clear hs hs5 HB)
        try simp only [hmi]
        clear hmi hmm
        have HS5 := Lib.hid (show Sep w _ (rowR 69 2 (.slice none 0 0) 0 (wasC C (rs.take 0)) :: mapR Try.prog 34 3 3 .i64 .i64 mi ((elems A.n (fun _ => false)).length) (visM (fun _ => false)) :: steeleR bb m a A.n (fun _ => false) :: markR m a 2049 (C) :: arenaR a A :: rowR 35 1 (.slice AL Rn capl) Rn (nums rs) :: adjR Try.prog 35 35 b (ptsOf fs) :: blkR T 25 #[.slice A0 n0 c0, .slice A1 n1 c1] :: []) from by
          rw [elems_none, visM_none]
          exact HS5a.out.nilRow 69 2)
        clear HS5a
        go_loopw [15, 74] (fun fv iv wr => ∃ (k : Nat) (AW : Option Addr) (capw : Nat), k ≤ Rn ∧ iv = .int .i64 k ∧ fv = .slice AW k capw ∧ Sep w wr (rowR 69 2 (.slice AW k capw) k (wasC C (rs.take k)) :: mapR Try.prog 34 3 3 .i64 .i64 mi ((elems A.n (fun _ => false)).length) (visM (fun _ => false)) :: steeleR bb m a A.n (fun _ => false) :: markR m a 2049 (C) :: arenaR a A :: rowR 35 1 (.slice AL Rn capl) Rn (nums rs) :: adjR Try.prog 35 35 b (ptsOf fs) :: blkR T 25 #[.slice A0 n0 c0, .slice A1 n1 c1] :: [])) (fun _ iv _ => Rn + 1 - (intOf iv).toNat)
        case atStart => exact ⟨0, none, 0, by omega, rfl, rfl, HS5.out⟩
        case round =>
          clear HS5
          obtain ⟨k, AW, capw, hk, rfl, rfl, hs⟩ := hrel
          by_cases hlt : k < Rn
          · have hltI : (k : Int) < (Rn : Int) := by omega
            obtain ⟨x, hx⟩ : ∃ z_, rs[k]? = some z_ := ⟨_, List.getElem?_eq_getElem (by rw [HRN.out]; exact hlt)⟩
            obtain ⟨g, cap', hsl, _, _⟩ := hs.rowSome 5 rfl (by omega)
            simp only [Value.slice.injEq] at hsl
            obtain ⟨rfl, _, rfl⟩ := hsl
            have cx := hs.rowCell 5 rfl k _ (nums_get _ _ _ hx)
            have hx2 := HGR.out.lt (List.mem_of_getElem? hx)
            have HTX := Lib.hid (show rs.take (k + 1) = rs.take k ++ [x] by rw [List.take_add_one, hx]; rfl)
            have HM1 := Lib.hid (KMarked hs 3 rfl x hx2.2)
            clear hs hx
            go_wp2_with (first
              | (go_at_call 32; refine (HM1.out).mono ?_; rintro e w7 ⟨rfl, hs⟩; have HM2 := Lib.hid (KScanned (show Sep w w7 (rowR 69 2 (.slice AW k capw) k (wasC C (rs.take k)) :: mapR Try.prog 34 3 3 .i64 .i64 mi ((elems A.n (fun _ => false)).length) (visM (fun _ => false)) :: steeleR bb m a A.n (fun _ => false) :: markR m a 2049 (C) :: arenaR a A :: rowR 35 1 (.slice (some ⟨g, 0, none⟩) Rn capl) Rn (nums rs) :: adjR Try.prog 35 35 b (ptsOf fs) :: blkR T 25 #[.slice A0 n0 c0, .slice A1 n1 c1] :: []) from hs) 3 rfl x hx2.2); clear hs HM1)
              | (go_at_call 35; refine (HM2.out).mono ?_; rintro e w8 ⟨rfl, hs⟩; have HS8 := Lib.hid hs; clear hs HM2)
              | (at_builtin; refine wpList_append_sep rfl _ _ 68 rfl 69 (.agg #[.bool false, .bool false]) 2 2 Try.underlying68 boolsInfo rfl (by decide) HS8.out 0 rfl rfl [.bool (C.mz x), .bool (C.sc x)] rfl (by simp [Value.oneCell']) rfl (by unfold maxLen; omega) (by omega) ?_; intro g4 cap4 w4_ hcap4 hcm4 hs4; have HS9 := Lib.hid hs4; clear hs4 HS8))
            go_roundw
            case rel => exact ⟨k + 1, some ⟨g4, 0, none⟩, cap4, by omega, by go_num, rfl, by rw [HTX.out, wasC_push]; exact HS9.out⟩
            case measure => simp [intOf]; omega
          · obtain rfl : Rn = k := by omega
            rw [List.take_of_length_le (by rw [HRN.out]; omega)] at hs
            have HSW := Lib.hid hs
            clear hs
            go_wp2_with fail
            go_loopw [91] (fun iv wr => ∃ (k : Nat) (D : Nat → Bool), k ≤ n3 ∧ iv = .int .i64 k ∧ (∀ i, D i = true → i < A.n) ∧ Sep w wr (rowR 69 2 (.slice AW Rn capw) Rn (wasC C (rs)) :: mapR Try.prog 34 3 3 .i64 .i64 mi ((elems A.n (D)).length) (visM (D)) :: steeleR bb m a A.n (D) :: markR m a 2049 (C) :: arenaR a A :: rowR 35 1 (.slice AL Rn capl) Rn (nums rs) :: adjR Try.prog 35 35 b (ptsOf fs) :: blkR T 25 #[.slice A0 n0 c0, .slice A1 n1 c1] :: [])) (fun iv _ => n3 + 1 - (intOf iv).toNat)
            case atStart => exact ⟨0, fun _ => false, by omega, rfl, (fun i h => by cases h), HSW.out⟩
            case round =>
              clear HSW
              obtain ⟨k, D, hk, rfl, hdl, hs⟩ := hrel
              by_cases hlt : k < n3
              · have hltI : (k : Int) < (n3 : Int) := by omega
                have HDL := Lib.hid hdl
                clear hdl
                obtain ⟨ab, ao, hA0, hcell⟩ := HZ3.out.at_ hs.own hlt
                subst hA0
                have hc0 := hcell 0 _ rfl
                have hw0 := wf8 (HZ3.out.wf hlt 0 .u8 rfl)
                simp at hc0
                obtain ⟨d0, h0⟩ : ∃ d, D3 k 0 = d := ⟨_, rfl⟩
                rw [h0] at hc0 hw0
                clear hcell h0
                have h15 := and8_15 hw0
                by_cases hR0 : Rn = 0
                · have hRb : ((Rn : Int) == 0) = true := by simp; omega
                  have hRd : decide ((Rn : Int) = 0) = true := decide_eq_true (by omega)
                  clear hR0
                  have HPO := Lib.hid (BPost hs 2 4 rfl rfl (by decide) (by rw [HGR.out.n]; omega) 0 0 0 false false (by omega))
                  clear hs
                  go_wp2_with (first
                    | (go_at_call 46; refine (BPre _ bb _ _).mono ?_; rintro e w6 ⟨rfl, rfl⟩)
                    | (go_at_call 47; refine (HPO.out).mono ?_; rintro e w7 ⟨rfl, hs⟩; rw [dirtied_zero] at hs; have HS7 := Lib.hid (show Sep w w7 (rowR 69 2 (.slice AW Rn capw) Rn (wasC C (rs)) :: mapR Try.prog 34 3 3 .i64 .i64 mi ((elems A.n (D)).length) (visM (D)) :: steeleR bb m a A.n (D) :: markR m a 2049 (C) :: arenaR a A :: rowR 35 1 (.slice AL Rn capl) Rn (nums rs) :: adjR Try.prog 35 35 b (ptsOf fs) :: blkR T 25 #[.slice A0 n0 c0, .slice A1 n1 c1] :: []) from hs); clear hs HPO))
                  go_roundw
                  case rel => exact ⟨k + 1, D, by omega, by go_num, HDL.out, HS7.out⟩
                  case measure => simp [intOf]; omega
                · have hRb : ((Rn : Int) == 0) = false := by simp; omega
                  have hRz : ¬ (Rn : Int) = 0 := by omega
                  by_cases hd15 : d0 % 16 = 15
                  · have HPO := Lib.hid (BPost hs 2 4 rfl rfl (by decide) (by rw [HGR.out.n]; omega) 0 0 0 false false (by omega))
                    clear hs
                    go_wp2_with (first
                      | (go_at_call 46; refine (BPre _ bb _ _).mono ?_; rintro e w6 ⟨rfl, rfl⟩)
                      | (go_at_call 47; refine (HPO.out).mono ?_; rintro e w7 ⟨rfl, hs⟩; rw [dirtied_zero] at hs; have HS7 := Lib.hid (show Sep w w7 (rowR 69 2 (.slice AW Rn capw) Rn (wasC C (rs)) :: mapR Try.prog 34 3 3 .i64 .i64 mi ((elems A.n (D)).length) (visM (D)) :: steeleR bb m a A.n (D) :: markR m a 2049 (C) :: arenaR a A :: rowR 35 1 (.slice AL Rn capl) Rn (nums rs) :: adjR Try.prog 35 35 b (ptsOf fs) :: blkR T 25 #[.slice A0 n0 c0, .slice A1 n1 c1] :: []) from hs); clear hs HPO))
                    go_roundw
                    case rel => exact ⟨k + 1, D, by omega, by go_num, HDL.out, HS7.out⟩
                    case measure => simp [intOf]; omega
                  · have hdb : (d0 % 16 == 15) = false := by simpa using hd15
                    obtain ⟨K1, um, ul⟩ : ∃ K1 : Nat, d0.tmod (Rn : Int) = (K1 : Int) ∧ K1 < Rn := by
                      have h1 := Int.emod_nonneg d0 (show (Rn : Int) ≠ 0 by omega)
                      have h2 := Int.emod_lt_of_pos d0 (show (0 : Int) < (Rn : Int) by omega)
                      refine ⟨(d0 % (Rn : Int)).toNat, ?_, by omega⟩
                      rw [Int.tmod_eq_emod_of_nonneg (by omega)]
                      omega
                    have uI : (K1 : Int) < (Rn : Int) := by omega
                    have u0 : (0 : Int) ≤ (K1 : Int) := by omega
                    obtain ⟨rx, hx⟩ : ∃ x, rs[K1]? = some x := ⟨_, List.getElem?_eq_getElem (by rw [HRN.out]; exact ul)⟩
                    obtain ⟨g, cap', hsl, _, _⟩ := hs.rowSome 5 rfl (by omega)
                    simp only [Value.slice.injEq] at hsl
                    obtain ⟨rfl, _, rfl⟩ := hsl
                    have cx := hs.rowCell 5 rfl K1 _ (nums_get _ _ _ hx)
                    have hxr := List.mem_of_getElem? hx
                    have hx2 := HGR.out.lt hxr
                    have hpz := HGR.out.pageZ hxr
                    obtain ⟨q, hq⟩ : ∃ q, (rx - 1) / 32 = q := ⟨_, rfl⟩
                    rw [hq] at hpz
                    have HPQ := Lib.hid hpz.1
                    have hq64 := hpz.2
                    have HQN := Lib.hid (show q < A.n by rw [HGR.out.n]; exact hq64)
                    have h2b := and8_1 hw0
                    have HPO := Lib.hid (BPost hs 2 4 rfl rfl (by decide) (by rw [HGR.out.n]; omega) (rx : Int) 0 0 (decide (d0 % 2 = 1)) false (by omega))
                    clear hs hx hxr hpz hq
                    go_wp2_with (first
                      | (go_at_call 46; refine (BPre _ bb _ _).mono ?_; rintro e w6 ⟨rfl, rfl⟩)
                      | (go_at_call 47; refine (HPO.out).mono ?_; rintro e w7 ⟨rfl, hs⟩; rw [HPQ.out, dirtied_putB] at hs; have hs' := (show Sep w w7 (rowR 69 2 (.slice AW Rn capw) Rn (wasC C (rs)) :: mapR Try.prog 34 3 3 .i64 .i64 mi ((elems A.n (D)).length) (visM (D)) :: steeleR bb m a A.n (putB D q) :: markR m a 2049 (C) :: arenaR a A :: rowR 35 1 (.slice (some ⟨g, 0, none⟩) Rn capl) Rn (nums rs) :: adjR Try.prog 35 35 b (ptsOf fs) :: blkR T 25 #[.slice A0 n0 c0, .slice A1 n1 c1] :: []) from hs); have hpg := TAPage hs' 4 rfl (rx : Int) (by omega); rw [HPQ.out] at hpg; have HPG := Lib.hid hpg; obtain ⟨w8, hput, hs8⟩ := map_put intIntOk hs' 1 rfl (by have := elems_few12 A.n D; have := HGR.out.n; unfold maxLen; omega) (wfx (x := q) (by omega)) (c := 1) (by decide); rw [visM_put, visM_at] at hs8; have HPT := Lib.hid hput; have HS7 := Lib.hid (show Sep w w8 (rowR 69 2 (.slice AW Rn capw) Rn (wasC C (rs)) :: mapR Try.prog 34 3 3 .i64 .i64 mi ((elems A.n (putB D q)).length) (visM (putB D q)) :: steeleR bb m a A.n (putB D q) :: markR m a 2049 (C) :: arenaR a A :: rowR 35 1 (.slice (some ⟨g, 0, none⟩) Rn capl) Rn (nums rs) :: adjR Try.prog 35 35 b (ptsOf fs) :: blkR T 25 #[.slice A0 n0 c0, .slice A1 n1 c1] :: []) from by
                          rw [elems_putB HQN.out]
                          by_cases e : D q = true
                          · simp only [e, if_true, Option.isSome_some] at hs8 ⊢
                            exact hs8
                          · simp only [e, if_false, Option.isSome_none, Bool.false_eq_true] at hs8 ⊢
                            exact hs8); clear hs hs' hpg hput hs8 HPO)
                      | (go_at_call 17; refine (HPG.out).mono ?_; rintro e w9 ⟨rfl, rfl⟩; clear HPG)
                      | (at_mapUpdate; refine wpList_mapUpdate_run rfl _ _ _ _ rfl rfl rfl rfl HPT.out ?_; clear HPT))
                    go_roundw
                    case rel => exact ⟨k + 1, putB D q, by omega, by go_num, (fun z hz => by
                        unfold putB at hz
                        by_cases e : z = q
                        · subst e; exact HQN.out
                        · simp [e] at hz; exact HDL.out z hz), HS7.out⟩
                    case measure => simp [intOf]; omega
              · obtain rfl : n3 = k := by omega
                have HDL := Lib.hid hdl
                have HDI := Lib.hid (BDirty hs 2 rfl (by rw [HGR.out.n]; omega))
                clear hs hdl
                have hdd : (((elems A.n D).length : Int) != ((elems A.n D).length : Int)) = false := by simp
                go_wp2_with (first
                  | (go_at_call 48; refine (HDI.out).mono ?_; rintro e w6 ⟨rfl, hs⟩; have hs' := (show Sep w w6 (rowR 69 2 (.slice AW Rn capw) Rn (wasC C (rs)) :: mapR Try.prog 34 3 3 .i64 .i64 mi ((elems A.n (D)).length) (visM (D)) :: steeleR bb m a A.n (D) :: markR m a 2049 (C) :: arenaR a A :: rowR 35 1 (.slice AL Rn capl) Rn (nums rs) :: adjR Try.prog 35 35 b (ptsOf fs) :: blkR T 25 #[.slice A0 n0 c0, .slice A1 n1 c1] :: []) from hs); have HLEN2 := Lib.hid (fun ty => map_len intIntOk hs' 1 rfl ty); have HRM := Lib.hid (BRemark HGR.out.heap.wf HGR.out.size (by rw [HGR.out.n]; omega) HDL.out (show Sep w w6 (steeleR bb m a A.n (D) :: markR m a 2049 (C) :: arenaR a A :: rowR 69 2 (.slice AW Rn capw) Rn (wasC C (rs)) :: mapR Try.prog 34 3 3 .i64 .i64 mi ((elems A.n (D)).length) (visM (D)) :: rowR 35 1 (.slice AL Rn capl) Rn (nums rs) :: adjR Try.prog 35 35 b (ptsOf fs) :: blkR T 25 #[.slice A0 n0 c0, .slice A1 n1 c1] :: []) from hs'.front 5 [2, 3, 4])); clear hs hs' HDI)
                  | (at_len; refine wpList_len_run rfl _ _ rfl rfl HLEN2.out ?_; clear HLEN2)
                  | (go_at_call 49; refine (HRM.out).mono ?_; rintro e w7 ⟨rfl, hs⟩; have HS5 := Lib.hid (show Sep w w7 (rowR 69 2 (.slice AW Rn capw) Rn (wasC C (rs)) :: mapR Try.prog 34 3 3 .i64 .i64 mi ((elems A.n (D)).length) (visM (D)) :: steeleR bb m a A.n (fun _ => false) :: markR m a 2049 (C.greyD A D) :: arenaR a A :: rowR 35 1 (.slice AL Rn capl) Rn (nums rs) :: adjR Try.prog 35 35 b (ptsOf fs) :: blkR T 25 #[.slice A0 n0 c0, .slice A1 n1 c1] :: []) from (show Sep w w7 (steeleR bb m a A.n (fun _ => false) :: markR m a 2049 (C.greyD A D) :: arenaR a A :: rowR 69 2 (.slice AW Rn capw) Rn (wasC C (rs)) :: mapR Try.prog 34 3 3 .i64 .i64 mi ((elems A.n (D)).length) (visM (D)) :: rowR 35 1 (.slice AL Rn capl) Rn (nums rs) :: adjR Try.prog 35 35 b (ptsOf fs) :: blkR T 25 #[.slice A0 n0 c0, .slice A1 n1 c1] :: []) from hs).front 8 [3, 4, 0, 1, 2, 5, 6, 7]); clear hs HRM))
                go_loopw [141] (fun i wr => ∃ (k : Nat), k ≤ Rn ∧ i = .int .i64 k ∧ Sep w wr (rowR 69 2 (.slice AW Rn capw) Rn (wasC C (rs)) :: mapR Try.prog 34 3 3 .i64 .i64 mi ((elems A.n (D)).length) (visM (D)) :: steeleR bb m a A.n (fun _ => false) :: markR m a 2049 (C.greyD A D) :: arenaR a A :: rowR 35 1 (.slice AL Rn capl) Rn (nums rs) :: adjR Try.prog 35 35 b (ptsOf fs) :: blkR T 25 #[.slice A0 n0 c0, .slice A1 n1 c1] :: [])) (fun i _ => Rn + 1 - (intOf i).toNat)
                case atStart => exact ⟨0, by omega, rfl, HS5.out⟩
                case round =>
                  clear HS5
                  obtain ⟨k, hk, rfl, hs⟩ := hrel
                  by_cases hlt : k < Rn
                  · have hltI : (k : Int) < (Rn : Int) := by omega
                    obtain ⟨x, hx⟩ : ∃ z_, rs[k]? = some z_ := ⟨_, List.getElem?_eq_getElem (by rw [HRN.out]; exact hlt)⟩
                    obtain ⟨g, cap', hsl, _, _⟩ := hs.rowSome 5 rfl (by omega)
                    simp only [Value.slice.injEq] at hsl
                    obtain ⟨rfl, _, rfl⟩ := hsl
                    have cx := hs.rowCell 5 rfl k _ (nums_get _ _ _ hx)
                    obtain ⟨gw, cap'', hslw, _, _⟩ := hs.rowSome 0 rfl (by omega)
                    simp only [Value.slice.injEq] at hslw
                    obtain ⟨rfl, _, rfl⟩ := hslw
                    have hxr := List.mem_of_getElem? hx
                    have hx2 := HGR.out.lt hxr
                    have hpz := HGR.out.pageZ hxr
                    have HTK := Lib.hid (HGR.out.tk12 hxr)
                    obtain ⟨q, hq⟩ : ∃ q, (x - 1) / 32 = q := ⟨_, rfl⟩
                    rw [hq] at hpz
                    have HQ := Lib.hid hq
                    have HPQ := Lib.hid hpz.1
                    have hq64 := hpz.2
                    obtain ⟨bm, hbm⟩ : ∃ b, C.mz x = b := ⟨_, rfl⟩
                    obtain ⟨bs, hbs⟩ : ∃ b, C.sc x = b := ⟨_, rfl⟩
                    obtain ⟨dq, hdq⟩ : ∃ b, D q = b := ⟨_, rfl⟩
                    have hwg := wasC_get C rs k x hx
                    rw [hbm, hbs] at hwg
                    have cw1 := hs.rowCell 0 rfl (k * 2 + 1) _ hwg.2
                    have HWM := Lib.hid hwg.1
                    have HBM := Lib.hid (show (C.greyD A D).mz x = bm from hbm)
                    clear hpz hq hxr hwg hbm
                    cases bs with
                    | false =>
                      clear hdq
                      have HSCX := Lib.hid (show (C.greyD A D).sc x = false by
                        show (C.sc x && !(A.tk x && D ((x - 1) / 32))) = false
                        rw [HTK.out, HQ.out, hbs]
                        rfl)
                      have HMK := Lib.hid (fun (W : World) (S : Sep w W (rowR 69 2 (.slice (some ⟨gw, 0, none⟩) Rn capw) Rn (wasC C (rs)) :: mapR Try.prog 34 3 3 .i64 .i64 mi ((elems A.n (D)).length) (visM (D)) :: steeleR bb m a A.n (fun _ => false) :: markR m a 2049 (C.greyD A D) :: arenaR a A :: rowR 35 1 (.slice (some ⟨g, 0, none⟩) Rn capl) Rn (nums rs) :: adjR Try.prog 35 35 b (ptsOf fs) :: blkR T 25 #[.slice A0 n0 c0, .slice A1 n1 c1] :: [])) => (show Calls Try.prog 32 #[.pointer (some ⟨m, 0, none⟩), .int .i64 (x : Int)] W fun e w' => e = .returned (.bool bm) ∧ Sep w w' (rowR 69 2 (.slice (some ⟨gw, 0, none⟩) Rn capw) Rn (wasC C (rs)) :: mapR Try.prog 34 3 3 .i64 .i64 mi ((elems A.n (D)).length) (visM (D)) :: steeleR bb m a A.n (fun _ => false) :: markR m a 2049 (C.greyD A D) :: arenaR a A :: rowR 35 1 (.slice (some ⟨g, 0, none⟩) Rn capl) Rn (nums rs) :: adjR Try.prog 35 35 b (ptsOf fs) :: blkR T 25 #[.slice A0 n0 c0, .slice A1 n1 c1] :: []) from by
                          have := KMarked S 3 rfl x hx2.2
                          rw [HBM.out] at this
                          exact this))
                      have HSK := Lib.hid (fun (W : World) (S : Sep w W (rowR 69 2 (.slice (some ⟨gw, 0, none⟩) Rn capw) Rn (wasC C (rs)) :: mapR Try.prog 34 3 3 .i64 .i64 mi ((elems A.n (D)).length) (visM (D)) :: steeleR bb m a A.n (fun _ => false) :: markR m a 2049 (C.greyD A D) :: arenaR a A :: rowR 35 1 (.slice (some ⟨g, 0, none⟩) Rn capl) Rn (nums rs) :: adjR Try.prog 35 35 b (ptsOf fs) :: blkR T 25 #[.slice A0 n0 c0, .slice A1 n1 c1] :: [])) => (show Calls Try.prog 35 #[.pointer (some ⟨m, 0, none⟩), .int .i64 (x : Int)] W fun e w' => e = .returned (.bool false) ∧ Sep w w' (rowR 69 2 (.slice (some ⟨gw, 0, none⟩) Rn capw) Rn (wasC C (rs)) :: mapR Try.prog 34 3 3 .i64 .i64 mi ((elems A.n (D)).length) (visM (D)) :: steeleR bb m a A.n (fun _ => false) :: markR m a 2049 (C.greyD A D) :: arenaR a A :: rowR 35 1 (.slice (some ⟨g, 0, none⟩) Rn capl) Rn (nums rs) :: adjR Try.prog 35 35 b (ptsOf fs) :: blkR T 25 #[.slice A0 n0 c0, .slice A1 n1 c1] :: []) from by
                          have := KScanned S 3 rfl x hx2.2
                          rw [HSCX.out] at this
                          exact this))
                      have HS4 := Lib.hid hs
                      clear hs hx HQ HTK HSCX hbs
                      go_wp2_with fail

                      refine region_sep HS4.out (by kernel_rfl) (by kernel_rfl) ?_
                      intro hne0
                      have yw : ∀ x_ : SepW w (rowR 69 2 (.slice (some ⟨gw, 0, none⟩) Rn capw) Rn (wasC C (rs)) :: mapR Try.prog 34 3 3 .i64 .i64 mi ((elems A.n (D)).length) (visM (D)) :: steeleR bb m a A.n (fun _ => false) :: markR m a 2049 (C.greyD A D) :: arenaR a A :: rowR 35 1 (.slice (some ⟨g, 0, none⟩) Rn capl) Rn (nums rs) :: adjR Try.prog 35 35 b (ptsOf fs) :: blkR T 25 #[.slice A0 n0 c0, .slice A1 n1 c1] :: []), x_.w'.cell? ⟨gw, k * 2, none⟩ = some (.bool bm) := fun x_ => x_.h.rowCell 0 rfl (k * 2) _ HWM.out
                      repeat (go_big_quiet_step (first
                        | (go_at_call 32; exact sep_calls (HMK.out _ (SepW.h _)))
                        | (go_at_call 35; exact sep_calls (HSK.out _ (SepW.h _)))))
                      refine wpQuiet_nil ?_
                      rintro wq ⟨⟨wqx, hs⟩, rfl⟩
                      clear yw hne0
                      have HS7 := Lib.hid hs
                      clear hs
                      go_wp2
                      go_roundw
                      case rel => exact ⟨k + 1, by omega, by go_num, HS7.out⟩
                      case measure => simp [intOf]; omega
                    | true =>
                      cases dq with
                      | false =>
                        have HSCX := Lib.hid (show (C.greyD A D).sc x = true by
                          show (C.sc x && !(A.tk x && D ((x - 1) / 32))) = true
                          rw [HTK.out, HQ.out, hbs, hdq]
                          rfl)
                        have hlk := map_get intIntOk hs 1 rfl (wfx (x := q) (by omega))
                        rw [visM_at, hdq] at hlk
                        simp only [Bool.false_eq_true, if_false, if_true, Option.getD_none, Option.getD_some] at hlk
                        have hpg := TAPage hs 4 rfl (x : Int) (by omega)
                        rw [HPQ.out] at hpg
                        have HPG := Lib.hid hpg
                        clear hpg
                        have HMK := Lib.hid (fun (W : World) (S : Sep w W (rowR 69 2 (.slice (some ⟨gw, 0, none⟩) Rn capw) Rn (wasC C (rs)) :: mapR Try.prog 34 3 3 .i64 .i64 mi ((elems A.n (D)).length) (visM (D)) :: steeleR bb m a A.n (fun _ => false) :: markR m a 2049 (C.greyD A D) :: arenaR a A :: rowR 35 1 (.slice (some ⟨g, 0, none⟩) Rn capl) Rn (nums rs) :: adjR Try.prog 35 35 b (ptsOf fs) :: blkR T 25 #[.slice A0 n0 c0, .slice A1 n1 c1] :: [])) => (show Calls Try.prog 32 #[.pointer (some ⟨m, 0, none⟩), .int .i64 (x : Int)] W fun e w' => e = .returned (.bool bm) ∧ Sep w w' (rowR 69 2 (.slice (some ⟨gw, 0, none⟩) Rn capw) Rn (wasC C (rs)) :: mapR Try.prog 34 3 3 .i64 .i64 mi ((elems A.n (D)).length) (visM (D)) :: steeleR bb m a A.n (fun _ => false) :: markR m a 2049 (C.greyD A D) :: arenaR a A :: rowR 35 1 (.slice (some ⟨g, 0, none⟩) Rn capl) Rn (nums rs) :: adjR Try.prog 35 35 b (ptsOf fs) :: blkR T 25 #[.slice A0 n0 c0, .slice A1 n1 c1] :: []) from by
                            have := KMarked S 3 rfl x hx2.2
                            rw [HBM.out] at this
                            exact this))
                        have HSK := Lib.hid (fun (W : World) (S : Sep w W (rowR 69 2 (.slice (some ⟨gw, 0, none⟩) Rn capw) Rn (wasC C (rs)) :: mapR Try.prog 34 3 3 .i64 .i64 mi ((elems A.n (D)).length) (visM (D)) :: steeleR bb m a A.n (fun _ => false) :: markR m a 2049 (C.greyD A D) :: arenaR a A :: rowR 35 1 (.slice (some ⟨g, 0, none⟩) Rn capl) Rn (nums rs) :: adjR Try.prog 35 35 b (ptsOf fs) :: blkR T 25 #[.slice A0 n0 c0, .slice A1 n1 c1] :: [])) => (show Calls Try.prog 35 #[.pointer (some ⟨m, 0, none⟩), .int .i64 (x : Int)] W fun e w' => e = .returned (.bool true) ∧ Sep w w' (rowR 69 2 (.slice (some ⟨gw, 0, none⟩) Rn capw) Rn (wasC C (rs)) :: mapR Try.prog 34 3 3 .i64 .i64 mi ((elems A.n (D)).length) (visM (D)) :: steeleR bb m a A.n (fun _ => false) :: markR m a 2049 (C.greyD A D) :: arenaR a A :: rowR 35 1 (.slice (some ⟨g, 0, none⟩) Rn capl) Rn (nums rs) :: adjR Try.prog 35 35 b (ptsOf fs) :: blkR T 25 #[.slice A0 n0 c0, .slice A1 n1 c1] :: []) from by
                            have := KScanned S 3 rfl x hx2.2
                            rw [HSCX.out] at this
                            exact this))
                        have HS4 := Lib.hid hs
                        clear hs hx HQ HTK HSCX hbs hdq
                        go_wp2_with (go_at_call 17; refine (HPG.out).mono ?_; rintro e w9 ⟨rfl, rfl⟩; clear HPG)
                        clear hlk
                        refine region_sep HS4.out (by kernel_rfl) (by kernel_rfl) ?_
                        intro hne0
                        have yw : ∀ x_ : SepW w (rowR 69 2 (.slice (some ⟨gw, 0, none⟩) Rn capw) Rn (wasC C (rs)) :: mapR Try.prog 34 3 3 .i64 .i64 mi ((elems A.n (D)).length) (visM (D)) :: steeleR bb m a A.n (fun _ => false) :: markR m a 2049 (C.greyD A D) :: arenaR a A :: rowR 35 1 (.slice (some ⟨g, 0, none⟩) Rn capl) Rn (nums rs) :: adjR Try.prog 35 35 b (ptsOf fs) :: blkR T 25 #[.slice A0 n0 c0, .slice A1 n1 c1] :: []), x_.w'.cell? ⟨gw, k * 2, none⟩ = some (.bool bm) := fun x_ => x_.h.rowCell 0 rfl (k * 2) _ HWM.out
                        repeat (go_big_quiet_step (first
                          | (go_at_call 32; exact sep_calls (HMK.out _ (SepW.h _)))
                          | (go_at_call 35; exact sep_calls (HSK.out _ (SepW.h _)))))
                        refine wpQuiet_nil ?_
                        rintro wq ⟨⟨wqx, hs⟩, rfl⟩
                        clear yw hne0
                        have HS7 := Lib.hid hs
                        clear hs
                        go_wp2
                        go_roundw
                        case rel => exact ⟨k + 1, by omega, by go_num, HS7.out⟩
                        case measure => simp [intOf]; omega
                      | true =>
                        have HSCX := Lib.hid (show (C.greyD A D).sc x = false by
                          show (C.sc x && !(A.tk x && D ((x - 1) / 32))) = false
                          rw [HTK.out, HQ.out, hbs, hdq]
                          rfl)
                        have hlk := map_get intIntOk hs 1 rfl (wfx (x := q) (by omega))
                        rw [visM_at, hdq] at hlk
                        simp only [Bool.false_eq_true, if_false, if_true, Option.getD_none, Option.getD_some] at hlk
                        have hpg := TAPage hs 4 rfl (x : Int) (by omega)
                        rw [HPQ.out] at hpg
                        have HPG := Lib.hid hpg
                        clear hpg
                        have HMK := Lib.hid (fun (W : World) (S : Sep w W (rowR 69 2 (.slice (some ⟨gw, 0, none⟩) Rn capw) Rn (wasC C (rs)) :: mapR Try.prog 34 3 3 .i64 .i64 mi ((elems A.n (D)).length) (visM (D)) :: steeleR bb m a A.n (fun _ => false) :: markR m a 2049 (C.greyD A D) :: arenaR a A :: rowR 35 1 (.slice (some ⟨g, 0, none⟩) Rn capl) Rn (nums rs) :: adjR Try.prog 35 35 b (ptsOf fs) :: blkR T 25 #[.slice A0 n0 c0, .slice A1 n1 c1] :: [])) => (show Calls Try.prog 32 #[.pointer (some ⟨m, 0, none⟩), .int .i64 (x : Int)] W fun e w' => e = .returned (.bool bm) ∧ Sep w w' (rowR 69 2 (.slice (some ⟨gw, 0, none⟩) Rn capw) Rn (wasC C (rs)) :: mapR Try.prog 34 3 3 .i64 .i64 mi ((elems A.n (D)).length) (visM (D)) :: steeleR bb m a A.n (fun _ => false) :: markR m a 2049 (C.greyD A D) :: arenaR a A :: rowR 35 1 (.slice (some ⟨g, 0, none⟩) Rn capl) Rn (nums rs) :: adjR Try.prog 35 35 b (ptsOf fs) :: blkR T 25 #[.slice A0 n0 c0, .slice A1 n1 c1] :: []) from by
                            have := KMarked S 3 rfl x hx2.2
                            rw [HBM.out] at this
                            exact this))
                        have HSK := Lib.hid (fun (W : World) (S : Sep w W (rowR 69 2 (.slice (some ⟨gw, 0, none⟩) Rn capw) Rn (wasC C (rs)) :: mapR Try.prog 34 3 3 .i64 .i64 mi ((elems A.n (D)).length) (visM (D)) :: steeleR bb m a A.n (fun _ => false) :: markR m a 2049 (C.greyD A D) :: arenaR a A :: rowR 35 1 (.slice (some ⟨g, 0, none⟩) Rn capl) Rn (nums rs) :: adjR Try.prog 35 35 b (ptsOf fs) :: blkR T 25 #[.slice A0 n0 c0, .slice A1 n1 c1] :: [])) => (show Calls Try.prog 35 #[.pointer (some ⟨m, 0, none⟩), .int .i64 (x : Int)] W fun e w' => e = .returned (.bool false) ∧ Sep w w' (rowR 69 2 (.slice (some ⟨gw, 0, none⟩) Rn capw) Rn (wasC C (rs)) :: mapR Try.prog 34 3 3 .i64 .i64 mi ((elems A.n (D)).length) (visM (D)) :: steeleR bb m a A.n (fun _ => false) :: markR m a 2049 (C.greyD A D) :: arenaR a A :: rowR 35 1 (.slice (some ⟨g, 0, none⟩) Rn capl) Rn (nums rs) :: adjR Try.prog 35 35 b (ptsOf fs) :: blkR T 25 #[.slice A0 n0 c0, .slice A1 n1 c1] :: []) from by
                            have := KScanned S 3 rfl x hx2.2
                            rw [HSCX.out] at this
                            exact this))
                        have HS4 := Lib.hid hs
                        clear hs hx HQ HTK HSCX hbs hdq
                        go_wp2_with (go_at_call 17; refine (HPG.out).mono ?_; rintro e w9 ⟨rfl, rfl⟩; clear HPG)
                        clear hlk
                        refine region_sep HS4.out (by kernel_rfl) (by kernel_rfl) ?_
                        intro hne0
                        have yw : ∀ x_ : SepW w (rowR 69 2 (.slice (some ⟨gw, 0, none⟩) Rn capw) Rn (wasC C (rs)) :: mapR Try.prog 34 3 3 .i64 .i64 mi ((elems A.n (D)).length) (visM (D)) :: steeleR bb m a A.n (fun _ => false) :: markR m a 2049 (C.greyD A D) :: arenaR a A :: rowR 35 1 (.slice (some ⟨g, 0, none⟩) Rn capl) Rn (nums rs) :: adjR Try.prog 35 35 b (ptsOf fs) :: blkR T 25 #[.slice A0 n0 c0, .slice A1 n1 c1] :: []), x_.w'.cell? ⟨gw, k * 2, none⟩ = some (.bool bm) := fun x_ => x_.h.rowCell 0 rfl (k * 2) _ HWM.out
                        repeat (go_big_quiet_step (first
                          | (go_at_call 32; exact sep_calls (HMK.out _ (SepW.h _)))
                          | (go_at_call 35; exact sep_calls (HSK.out _ (SepW.h _)))))
                        refine wpQuiet_nil ?_
                        rintro wq ⟨⟨wqx, hs⟩, rfl⟩
                        clear yw hne0
                        have HS7 := Lib.hid hs
                        clear hs
                        go_wp2
                        go_roundw
                        case rel => exact ⟨k + 1, by omega, by go_num, HS7.out⟩
                        case measure => simp [intOf]; omega
                  · obtain rfl : Rn = k := by omega
                    have hd0 := BDirty hs 2 rfl (by rw [HGR.out.n]; omega); rw [elems_none] at hd0; have HD0 := Lib.hid hd0; clear hd0
                    by_cases hR0 : Rn = 0
                    · have hRz : ¬ (0 : Int) < (Rn : Int) := by omega
                      clear hs
                      go_wp2_with (first
                        | (go_at_call 48; refine (HD0.out).mono ?_; rintro e w6 ⟨rfl, hs⟩; have hs' := (show Sep w w6 (rowR 69 2 (.slice AW Rn capw) Rn (wasC C (rs)) :: mapR Try.prog 34 3 3 .i64 .i64 mi ((elems A.n (D)).length) (visM (D)) :: steeleR bb m a A.n (fun _ => false) :: markR m a 2049 (C.greyD A D) :: arenaR a A :: rowR 35 1 (.slice AL Rn capl) Rn (nums rs) :: adjR Try.prog 35 35 b (ptsOf fs) :: blkR T 25 #[.slice A0 n0 c0, .slice A1 n1 c1] :: []) from hs); have hd0 := BDirty hs' 2 rfl (by rw [HGR.out.n]; omega); rw [elems_none] at hd0; have HD1 := Lib.hid hd0; clear hd0; clear hs hs' HD0)
                        | (go_at_call 48; refine (HD1.out).mono ?_; rintro e w7 ⟨rfl, hs⟩; have HS7 := Lib.hid hs; clear hs HD1))
                      go_ret
                      exact ⟨by first | rfl | simp, HS7.out.below⟩
                    · have hRz : (0 : Int) < (Rn : Int) := by omega
                      obtain ⟨g, cap', hsl, _, _⟩ := hs.rowSome 5 rfl (by omega)
                      simp only [Value.slice.injEq] at hsl
                      obtain ⟨rfl, _, rfl⟩ := hsl
                      obtain ⟨x0, hx⟩ : ∃ z_, rs[0]? = some z_ := ⟨_, List.getElem?_eq_getElem (by rw [HRN.out]; omega)⟩
                      have HX := Lib.hid hx
                      have hx2 := HGR.out.lt (List.mem_of_getElem? hx)
                      clear hs hx
                      go_wp2_with (first
                        | (go_at_call 48; refine (HD0.out).mono ?_; rintro e w6 ⟨rfl, hs⟩; have hs' := (show Sep w w6 (rowR 69 2 (.slice AW Rn capw) Rn (wasC C (rs)) :: mapR Try.prog 34 3 3 .i64 .i64 mi ((elems A.n (D)).length) (visM (D)) :: steeleR bb m a A.n (fun _ => false) :: markR m a 2049 (C.greyD A D) :: arenaR a A :: rowR 35 1 (.slice (some ⟨g, 0, none⟩) Rn capl) Rn (nums rs) :: adjR Try.prog 35 35 b (ptsOf fs) :: blkR T 25 #[.slice A0 n0 c0, .slice A1 n1 c1] :: []) from hs); have cx := hs'.rowCell 5 rfl 0 _ (nums_get _ _ _ HX.out); have HPO := Lib.hid (BPost hs' 2 4 rfl rfl (by decide) (by rw [HGR.out.n]; omega) (x0 : Int) 0 0 false false (by omega)); clear hs hs' HD0)
                        | (go_at_call 47; refine (HPO.out).mono ?_; rintro e w7 ⟨rfl, hs⟩; clear cx; have HRE := Lib.hid (BReset (show Sep w w7 (rowR 69 2 (.slice AW Rn capw) Rn (wasC C (rs)) :: mapR Try.prog 34 3 3 .i64 .i64 mi ((elems A.n (D)).length) (visM (D)) :: steeleR bb m a A.n (dirtied (fun _ => false) (A.page (x0 : Int))) :: markR m a 2049 (C.greyD A D) :: arenaR a A :: rowR 35 1 (.slice (some ⟨g, 0, none⟩) Rn capl) Rn (nums rs) :: adjR Try.prog 35 35 b (ptsOf fs) :: blkR T 25 #[.slice A0 n0 c0, .slice A1 n1 c1] :: []) from hs) 2 rfl (by rw [HGR.out.n]; omega)); clear hs HPO)
                        | (go_at_call 50; refine (HRE.out).mono ?_; rintro e w8 ⟨rfl, hs⟩; have hs' := (show Sep w w8 (rowR 69 2 (.slice AW Rn capw) Rn (wasC C (rs)) :: mapR Try.prog 34 3 3 .i64 .i64 mi ((elems A.n (D)).length) (visM (D)) :: steeleR bb m a A.n (fun _ => false) :: markR m a 2049 (C.greyD A D) :: arenaR a A :: rowR 35 1 (.slice (some ⟨g, 0, none⟩) Rn capl) Rn (nums rs) :: adjR Try.prog 35 35 b (ptsOf fs) :: blkR T 25 #[.slice A0 n0 c0, .slice A1 n1 c1] :: []) from hs); have hd0 := BDirty hs' 2 rfl (by rw [HGR.out.n]; omega); rw [elems_none] at hd0; have HD1 := Lib.hid hd0; clear hd0; clear hs hs' HRE)
                        | (go_at_call 48; refine (HD1.out).mono ?_; rintro e w9 ⟨rfl, hs⟩; have HS7 := Lib.hid hs; clear hs HD1))
                      go_ret
                      exact ⟨by first | rfl | simp, HS7.out.below⟩
  · by_cases hsm : n0 ≤ 40 ∧ n1 ≤ 120
    · have HSD := Lib.hid (show (decide (n0 ≤ 40) && decide (n1 ≤ 120)) = true by rw [decide_eq_true hsm.1, decide_eq_true hsm.2]; rfl)
      have hn30 : (40 : Int) < (n3 : Int) := by
        have : ¬ n3 ≤ 40 := fun h => hsmall ⟨hsm.1, hsm.2, h⟩
        omega
      clear hsm hsmall
      go_wp2_with (first
        | (go_at_call 43; refine (fit12 _).mono ?_; rintro e w1 ⟨rfl, hC⟩; have hs1 := HS0.out.same hC; have p0 := (hs1.blk 0 rfl).cell 0; have p1 := (hs1.blk 0 rfl).cell 1; simp only [List.getElem?_toArray, List.getElem?_cons_zero, List.getElem?_cons_succ] at p0 p1; have HS1 := Lib.hid hs1; clear hC hs1 HS0)
        | (go_at_call 13; refine (Small11 _ A0 n0 c0 A1 n1 c1).mono ?_; rw [HSD.out]; rintro e w2 ⟨rfl, hC⟩; have HS2 := Lib.hid (HS1.out.same hC); clear hC HS1))
      go_ret
      exact ⟨rfl, HS2.out.below⟩
    · have HSD := Lib.hid (show (decide (n0 ≤ 40) && decide (n1 ≤ 120)) = false by
        rw [Bool.and_eq_false_iff]
        by_cases h : n0 ≤ 40
        · exact .inr (decide_eq_false fun h2 => hsm ⟨h, h2⟩)
        · exact .inl (decide_eq_false h))
      clear hsm hsmall
      go_wp2_with (first
        | (go_at_call 43; refine (fit12 _).mono ?_; rintro e w1 ⟨rfl, hC⟩; have hs1 := HS0.out.same hC; have p0 := (hs1.blk 0 rfl).cell 0; have p1 := (hs1.blk 0 rfl).cell 1; simp only [List.getElem?_toArray, List.getElem?_cons_zero, List.getElem?_cons_succ] at p0 p1; have HS1 := Lib.hid hs1; clear hC hs1 HS0)
        | (go_at_call 13; refine (Small11 _ A0 n0 c0 A1 n1 c1).mono ?_; rw [HSD.out]; rintro e w2 ⟨rfl, hC⟩; have HS2 := Lib.hid (HS1.out.same hC); clear hC HS1))
      go_ret
      exact ⟨rfl, HS2.out.below⟩
end Go.Proofs.Ytbcabjpafeocgaa
