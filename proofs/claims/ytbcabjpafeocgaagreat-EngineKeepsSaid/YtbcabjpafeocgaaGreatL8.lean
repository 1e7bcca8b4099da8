/-
  Parts of the proof, joined: Finish, BlackP, SteeleP, EngineP, ByteBits, Bits8, Made08, Roots, Fit16, EngOps, ReachX, EngineIn. Conditions: as each part says.
-/
import Derived.Test.YtbcabjpafeocgaaGreatL7
import Derived.Test.YtbcabjpafeocgaaGreatL5
import Derived.Handy
import Derived.Test.YtbcabjpafeocgaaGreatL6
import Derived.Test.YtbcabjpafeocgaaGreatL4
import Derived.Test.YtbcabjpafeocgaaGreatL1
import Derived.Laws.BitsAllLaws
import Derived.Test.YtbcabjpafeocgaaGreatL3

/-
  How marking ends (engine.Finish of layer 16). Conditions: as the theorem says.
-/
namespace Go.Proofs.YtbcabjpafeocgaaGreat
set_option linter.unusedVariables false
set_option linter.unusedSimpArgs false
open Go.RowKit Go.Shelf
attribute [local go_sem] Oper.semAt_some wide_fn round_fn wide_depth round_depth
attribute [local simp] wide_fn round_fn wide_depth round_depth

def Eng.fin (A : AR) (l : List Nat) (E : Eng) (C : Col) : Col := (E.remark A (if E.rescans = true then C.shades l else C)).2
theorem Steps.same0 {pts : Nat → List Nat} {C C' : Col} {d : Nat} (h : Steps pts d C C') (h0 : d = 0) : C' = C := by
  cases h with
  | zero => rfl
  | succ => omega
section
variable {w0 w : World} {R0 K : List Res} {b m a n : Nat} {C : Col} {A : AR} {D : Nat → Bool} {V : Vy} {fs : Nat → List Nat} {rs l : List Nat} {gf : Nat} {lb : Array Value}
set_option maxRecDepth 100000 in
set_option maxHeartbeats 8000000 in
theorem EFinish_st (hit : Iter Tryz.prog gf lb (fun i : Nat => #[.int .i64 (i : Int)]) l (fun _ => K)) (eg : ∀ args w, (callFunc gf args).run Tryz.prog w = .ok (.enter gf args) w) (hl : ∀ x ∈ l, 0 < x ∧ x < n)
    (hwf : A.Wf) (hn : A.size = (n : Int)) (hn2 : A.n ≤ 1000) (hok : ∀ i, D i = true → i < A.n) (hH : Heap A (fun x => x ∈ rs) fs) (hnd : rs.Nodup) (hcl : ∀ x ∈ rs, ∀ y ∈ ptsOf fs x, y ∈ rs) (hlen : rs.length ≤ 1000000) (hmz : ∀ x, (((C.shades l).greyD A D)).mz x = true → x ∈ rs)
    (S : Sep w0 w (K ++ (steeleR b m a A.n D :: markR m a n (C) :: arenaR a A :: R0))) :
    Calls Tryz.prog 29 #[.iface 36 (.pointer (some ⟨b, 0, none⟩)), .pointer (some ⟨m, 0, none⟩), .func (.func gf) #[] lb] w fun e w' => ∃ (d : Nat) (C' : Col), e = .returned (.int .i64 (d : Int)) ∧ Steps (ptsOf fs) d ((C.shades l).greyD A D) C' ∧ (∀ x, C'.grey x = false) ∧ Sep w0 w' (K ++ (steeleR b m a A.n (fun _ => false) :: markR m a n (C') :: arenaR a A :: R0)) := by
  obtain ⟨T, hT⟩ : ∃ T, w.heap.size = T := ⟨_, rfl⟩
  have hb := S.box #[.pointer (some ⟨m, 0, none⟩)] 32
  rw [hT] at hb
  have HOK := Lib.hid hok
  have HNN := Lib.hid (show n = A.n * 32 + 1 by unfold AR.size at hn; omega)
  have y0 := (hb.blk 0 rfl).cell 0
  simp only [List.getElem?_toArray, List.getElem?_cons_zero] at y0
  have HB := Lib.hid (show Sep w0 _ (K ++ (marksR [] :: (blkR T 32 #[.pointer (some ⟨m, 0, none⟩)] :: steeleR b m a A.n D :: markR m a n (C.shades []) :: arenaR a A :: R0))) from (hb.noMarks.perm (perm_mid [marksR [], blkR T 32 #[.pointer (some ⟨m, 0, none⟩)]] K (steeleR b m a A.n D :: markR m a n (C) :: arenaR a A :: R0))))
  clear S hb
  refine calls_wide ?_
  refine callsIn_of_wp_marks Tryz.func29 rfl trivial ?_
  simp only [Tryz.ntmps29, List.size_toArray, List.length_cons, List.length_nil, Nat.reduceAdd, Nat.reduceSub, Array.replicate_succ, Array.replicate_zero, List.push_toArray, List.append_toArray, List.nil_append, List.cons_append]
  refine wpIn_wide.2 ?_
  go_wp2_with (go_at_call 40; refine (BRescans _ b).mono ?_; rintro e w5 ⟨rfl, rfl⟩)
  try simp only [hT]
  clear hT y0
  refine (wpIn_wide (n := 0)).1 ?_
  refine wp_rangeM (Ds := []) (gf := gf) (lb := lb) rfl eg hit (fun _ => rfl) HB.out
    (fun pre Rs => Rs = blkR T 32 #[.pointer (some ⟨m, 0, none⟩)] :: steeleR b m a A.n D :: markR m a n (C.shades pre) :: arenaR a A :: R0) (fun _ _ _ => False) rfl ?round ?done ?stop
  case stop => rintro _ _ _ _ _ _ h; exact h.elim
  case round =>
    rintro l1 pre x _ G W1 r hpre rfl hS1
    have hx := hl x (hpre.subset (by simp))
    have HS1 := Lib.hid hS1
    clear hpre hS1 HB
    gi_wp2
    refine ⟨[], HS1.out, ?_⟩
    intro r' W2 hS2
    have hS3 := hS2.perm (perm_mid K [objR l1 (.loop r'), blkR T 32 #[.pointer (some ⟨m, 0, none⟩)], steeleR b m a A.n D, markR m a n (C.shades pre), arenaR a A] (R0 ++ G))
    simp only [List.cons_append, List.nil_append] at hS3
    have y0 := (hS3.blk 1 rfl).cell 0
    simp only [List.getElem?_toArray, List.getElem?_cons_zero] at y0
    have HSH := Lib.hid (KShade hS3 3 rfl x hx.1 hx.2)
    clear hS2 hS3 HS1
    gi_wp2_with (gi_at_call 13; refine (calls_round (HSH.out)).mono ?_; rintro e w3 ⟨rfl, hs⟩; have HS4 := Lib.hid hs; clear hs HSH y0)
    refine ⟨_, rfl, ?_⟩
    rw [shades_push]
    exact (show Sep w0 _ ([objR l1 (.loop r'), blkR T 32 #[.pointer (some ⟨m, 0, none⟩)], steeleR b m a A.n D, markR m a n ((C.shades pre).shade x), arenaR a A] ++ (K ++ (R0 ++ G))) from HS4.out).perm (perm_mid _ K (R0 ++ G))
  rintro Ds _ V1 hR hS
  subst hR
  have HS5 := Lib.hid (show Sep w0 V1 (steeleR b m a A.n D :: markR m a n (C.shades l) :: arenaR a A :: marksR Ds :: blkR T 32 #[.pointer (some ⟨m, 0, none⟩)] :: (K ++ R0)) from (hS.perm (perm_mid K [marksR Ds, blkR T 32 #[.pointer (some ⟨m, 0, none⟩)], steeleR b m a A.n D, markR m a n (C.shades l), arenaR a A] R0)).front 5 [2, 3, 4])
  clear hS HB
  have y0 := (HS5.out.blk 4 rfl).cell 0
  simp only [List.getElem?_toArray, List.getElem?_cons_zero] at y0
  go_wp2_with (go_at_call 15; refine (BRemark hwf hn hn2 HOK.out HS5.out).mono ?_; rintro e w6 ⟨rfl, hs⟩; clear y0; have HS6 := Lib.hid (show Sep w0 w6 (steeleR b m a A.n (fun _ => false) :: markR m a n (((C.shades l).greyD A D)) :: arenaR a A :: marksR Ds :: blkR T 32 #[.pointer (some ⟨m, 0, none⟩)] :: (K ++ R0)) from hs); clear hs HS5)
  have HC1 := Lib.hid (show ∀ x, (((C.shades l).greyD A D)).mz x = true → x ∈ rs from hmz)
  go_loopw [8] (fun nv wr => ∃ (d : Nat) (C' : Col), nv = .int .i64 (d : Int) ∧ Steps (ptsOf fs) d ((C.shades l).greyD A D) C' ∧ Sep w0 wr (steeleR b m a A.n (fun _ => false) :: markR m a n (C') :: arenaR a A :: marksR Ds :: blkR T 32 #[.pointer (some ⟨m, 0, none⟩)] :: (K ++ R0))) (fun nv _ => rs.length + 1 - (intOf nv).toNat)
  case atStart => exact ⟨0, _, rfl, .zero _, HS6.out⟩
  case round =>
    clear HS6
    obtain ⟨d, C', rfl, hst, hs⟩ := hrel
    have hin : ∀ x, C'.mz x = true → x ∈ rs := hst.within (P := fun x => x ∈ rs) hcl HC1.out
    have hcnt := hst.count hnd hcl HC1.out
    have hdl : d ≤ rs.length := by
      have := List.countP_le_length (p := C'.sc) (l := rs)
      omega
    have HST := Lib.hid hst
    have HIN := Lib.hid hin
    have y0 := (hs.blk 4 rfl).cell 0
    simp only [List.getElem?_toArray, List.getElem?_cons_zero] at y0
    have HKD := Lib.hid (KDrained hs 1 rfl)
    clear hs hst hin hcnt
    by_cases hgr : ∀ x, C'.grey x = false
    · have HGRY := Lib.hid hgr
      clear hgr
      go_wp2_with (go_at_call 23; refine (HKD.out).mono ?_; rintro e w7 ⟨bq, rfl, hb, hs⟩; obtain rfl : bq = true := hb.2 HGRY.out; have HS7 := Lib.hid hs; clear hs hb HKD)
      exact leavesM (L := steeleR b m a A.n (fun _ => false) :: markR m a n (C') :: arenaR a A :: blkR T 32 #[.pointer (some ⟨m, 0, none⟩)] :: (K ++ R0)) (fun w' hs => ⟨_, results_tmp rfl _ _ _, d, C', rfl, HST.out, HGRY.out, (show Sep w0 w' ([steeleR b m a A.n (fun _ => false), markR m a n (C'), arenaR a A] ++ (K ++ R0)) from (hs.front 4 [3, 0, 1, 2]).tail).perm (perm_mid _ K R0)⟩) Ds _ (HS7.out.front 4 [3, 0, 1, 2])
    · have HGRY := Lib.hid hgr
      clear hgr
      go_wp2_with (first
        | (go_at_call 23; refine (HKD.out).mono ?_; rintro e w7 ⟨bq, rfl, hb, hs⟩; have hbq : bq = false := (by cases bq with | false => rfl | true => exact absurd (hb.1 rfl) HGRY.out); subst hbq; clear y0; have y0 := (hs.blk 4 rfl).cell 0; simp only [List.getElem?_toArray, List.getElem?_cons_zero] at y0; have HKT := Lib.hid (KTrace hH hn HIN.out hs 1 2 rfl rfl (by decide) 16 (by omega)); clear hs hb HKD)
        | (go_at_call 20; refine (HKT.out).mono ?_; rintro e w8 ⟨d2, C2, rfl, ht, hs⟩; have hd16 := ht.most; have hd0 : 0 < d2 := (by rcases Nat.eq_zero_or_pos d2 with h0 | h0; exact absurd (fun x => by have h1 := ht.end_ (by omega) x; rw [ht.steps.same0 h0] at h1; exact h1) HGRY.out; exact h0); have HST2 := Lib.hid (HST.out.trans ht.steps); have HS8 := Lib.hid (show Sep w0 w8 (steeleR b m a A.n (fun _ => false) :: markR m a n (C2) :: arenaR a A :: marksR Ds :: blkR T 32 #[.pointer (some ⟨m, 0, none⟩)] :: (K ++ R0)) from hs); clear hs ht HKT y0))
      have hcnt2 := HST2.out.count hnd hcl HC1.out
      have hdl2 : d + d2 ≤ rs.length := by
        have := List.countP_le_length (p := C2.sc) (l := rs)
        omega
      clear hcnt2
      go_roundw
      case rel => exact ⟨d + d2, C2, by go_num, HST2.out, HS8.out⟩
      case measure => simp [intOf]; omega
set_option maxRecDepth 100000 in
set_option maxHeartbeats 8000000 in
theorem EFinish_dj (hit : Iter Tryz.prog gf lb (fun i : Nat => #[.int .i64 (i : Int)]) l (fun _ => K)) (eg : ∀ args w, (callFunc gf args).run Tryz.prog w = .ok (.enter gf args) w) (hl : ∀ x ∈ l, 0 < x ∧ x < n)
    (hwf : A.Wf) (hn : A.size = (n : Int)) (hn2 : A.n ≤ 1000) (hH : Heap A (fun x => x ∈ rs) fs) (hnd : rs.Nodup) (hcl : ∀ x ∈ rs, ∀ y ∈ ptsOf fs x, y ∈ rs) (hlen : rs.length ≤ 1000000) (hmz : ∀ x, ((C.shades l)).mz x = true → x ∈ rs)
    (S : Sep w0 w (K ++ (dijR b m :: markR m a n (C) :: arenaR a A :: R0))) :
    Calls Tryz.prog 29 #[.iface 71 (.pointer (some ⟨b, 0, none⟩)), .pointer (some ⟨m, 0, none⟩), .func (.func gf) #[] lb] w fun e w' => ∃ (d : Nat) (C' : Col), e = .returned (.int .i64 (d : Int)) ∧ Steps (ptsOf fs) d (C.shades l) C' ∧ (∀ x, C'.grey x = false) ∧ Sep w0 w' (K ++ (dijR b m :: markR m a n (C') :: arenaR a A :: R0)) := by
  obtain ⟨T, hT⟩ : ∃ T, w.heap.size = T := ⟨_, rfl⟩
  have hb := S.box #[.pointer (some ⟨m, 0, none⟩)] 32
  rw [hT] at hb
  have HNN := Lib.hid (show n = A.n * 32 + 1 by unfold AR.size at hn; omega)
  have y0 := (hb.blk 0 rfl).cell 0
  simp only [List.getElem?_toArray, List.getElem?_cons_zero] at y0
  have HB := Lib.hid (show Sep w0 _ (K ++ (marksR [] :: (blkR T 32 #[.pointer (some ⟨m, 0, none⟩)] :: dijR b m :: markR m a n (C.shades []) :: arenaR a A :: R0))) from (hb.noMarks.perm (perm_mid [marksR [], blkR T 32 #[.pointer (some ⟨m, 0, none⟩)]] K (dijR b m :: markR m a n (C) :: arenaR a A :: R0))))
  clear S hb
  refine calls_wide ?_
  refine callsIn_of_wp_marks Tryz.func29 rfl trivial ?_
  simp only [Tryz.ntmps29, List.size_toArray, List.length_cons, List.length_nil, Nat.reduceAdd, Nat.reduceSub, Array.replicate_succ, Array.replicate_zero, List.push_toArray, List.append_toArray, List.nil_append, List.cons_append]
  refine wpIn_wide.2 ?_
  go_wp2_with (go_at_call 153; refine (DRescans _ b).mono ?_; rintro e w5 ⟨rfl, rfl⟩)
  try simp only [hT]
  clear hT y0
  refine (wpIn_wide (n := 0)).1 ?_
  refine wp_rangeM (Ds := []) (gf := gf) (lb := lb) rfl eg hit (fun _ => rfl) HB.out
    (fun pre Rs => Rs = blkR T 32 #[.pointer (some ⟨m, 0, none⟩)] :: dijR b m :: markR m a n (C.shades pre) :: arenaR a A :: R0) (fun _ _ _ => False) rfl ?round ?done ?stop
  case stop => rintro _ _ _ _ _ _ h; exact h.elim
  case round =>
    rintro l1 pre x _ G W1 r hpre rfl hS1
    have hx := hl x (hpre.subset (by simp))
    have HS1 := Lib.hid hS1
    clear hpre hS1 HB
    gi_wp2
    refine ⟨[], HS1.out, ?_⟩
    intro r' W2 hS2
    have hS3 := hS2.perm (perm_mid K [objR l1 (.loop r'), blkR T 32 #[.pointer (some ⟨m, 0, none⟩)], dijR b m, markR m a n (C.shades pre), arenaR a A] (R0 ++ G))
    simp only [List.cons_append, List.nil_append] at hS3
    have y0 := (hS3.blk 1 rfl).cell 0
    simp only [List.getElem?_toArray, List.getElem?_cons_zero] at y0
    have HSH := Lib.hid (KShade hS3 3 rfl x hx.1 hx.2)
    clear hS2 hS3 HS1
    gi_wp2_with (gi_at_call 13; refine (calls_round (HSH.out)).mono ?_; rintro e w3 ⟨rfl, hs⟩; have HS4 := Lib.hid hs; clear hs HSH y0)
    refine ⟨_, rfl, ?_⟩
    rw [shades_push]
    exact (show Sep w0 _ ([objR l1 (.loop r'), blkR T 32 #[.pointer (some ⟨m, 0, none⟩)], dijR b m, markR m a n ((C.shades pre).shade x), arenaR a A] ++ (K ++ (R0 ++ G))) from HS4.out).perm (perm_mid _ K (R0 ++ G))
  rintro Ds _ V1 hR hS
  subst hR
  have HS5 := Lib.hid (show Sep w0 V1 (dijR b m :: markR m a n (C.shades l) :: arenaR a A :: marksR Ds :: blkR T 32 #[.pointer (some ⟨m, 0, none⟩)] :: (K ++ R0)) from (hS.perm (perm_mid K [marksR Ds, blkR T 32 #[.pointer (some ⟨m, 0, none⟩)], dijR b m, markR m a n (C.shades l), arenaR a A] R0)).front 5 [2, 3, 4])
  clear hS HB
  have y0 := (HS5.out.blk 4 rfl).cell 0
  simp only [List.getElem?_toArray, List.getElem?_cons_zero] at y0
  go_wp2_with (go_at_call 152; refine (DRemark _ b).mono ?_; rintro e w6 ⟨rfl, rfl⟩; clear y0; have HS6 := HS5; clear HS5)
  have HC1 := Lib.hid (show ∀ x, ((C.shades l)).mz x = true → x ∈ rs from hmz)
  go_loopw [8] (fun nv wr => ∃ (d : Nat) (C' : Col), nv = .int .i64 (d : Int) ∧ Steps (ptsOf fs) d (C.shades l) C' ∧ Sep w0 wr (dijR b m :: markR m a n (C') :: arenaR a A :: marksR Ds :: blkR T 32 #[.pointer (some ⟨m, 0, none⟩)] :: (K ++ R0))) (fun nv _ => rs.length + 1 - (intOf nv).toNat)
  case atStart => exact ⟨0, _, rfl, .zero _, HS6.out⟩
  case round =>
    clear HS6
    obtain ⟨d, C', rfl, hst, hs⟩ := hrel
    have hin : ∀ x, C'.mz x = true → x ∈ rs := hst.within (P := fun x => x ∈ rs) hcl HC1.out
    have hcnt := hst.count hnd hcl HC1.out
    have hdl : d ≤ rs.length := by
      have := List.countP_le_length (p := C'.sc) (l := rs)
      omega
    have HST := Lib.hid hst
    have HIN := Lib.hid hin
    have y0 := (hs.blk 4 rfl).cell 0
    simp only [List.getElem?_toArray, List.getElem?_cons_zero] at y0
    have HKD := Lib.hid (KDrained hs 1 rfl)
    clear hs hst hin hcnt
    by_cases hgr : ∀ x, C'.grey x = false
    · have HGRY := Lib.hid hgr
      clear hgr
      go_wp2_with (go_at_call 23; refine (HKD.out).mono ?_; rintro e w7 ⟨bq, rfl, hb, hs⟩; obtain rfl : bq = true := hb.2 HGRY.out; have HS7 := Lib.hid hs; clear hs hb HKD)
      exact leavesM (L := dijR b m :: markR m a n (C') :: arenaR a A :: blkR T 32 #[.pointer (some ⟨m, 0, none⟩)] :: (K ++ R0)) (fun w' hs => ⟨_, results_tmp rfl _ _ _, d, C', rfl, HST.out, HGRY.out, (show Sep w0 w' ([dijR b m, markR m a n (C'), arenaR a A] ++ (K ++ R0)) from (hs.front 4 [3, 0, 1, 2]).tail).perm (perm_mid _ K R0)⟩) Ds _ (HS7.out.front 4 [3, 0, 1, 2])
    · have HGRY := Lib.hid hgr
      clear hgr
      go_wp2_with (first
        | (go_at_call 23; refine (HKD.out).mono ?_; rintro e w7 ⟨bq, rfl, hb, hs⟩; have hbq : bq = false := (by cases bq with | false => rfl | true => exact absurd (hb.1 rfl) HGRY.out); subst hbq; clear y0; have y0 := (hs.blk 4 rfl).cell 0; simp only [List.getElem?_toArray, List.getElem?_cons_zero] at y0; have HKT := Lib.hid (KTrace hH hn HIN.out hs 1 2 rfl rfl (by decide) 16 (by omega)); clear hs hb HKD)
        | (go_at_call 20; refine (HKT.out).mono ?_; rintro e w8 ⟨d2, C2, rfl, ht, hs⟩; have hd16 := ht.most; have hd0 : 0 < d2 := (by rcases Nat.eq_zero_or_pos d2 with h0 | h0; exact absurd (fun x => by have h1 := ht.end_ (by omega) x; rw [ht.steps.same0 h0] at h1; exact h1) HGRY.out; exact h0); have HST2 := Lib.hid (HST.out.trans ht.steps); have HS8 := Lib.hid (show Sep w0 w8 (dijR b m :: markR m a n (C2) :: arenaR a A :: marksR Ds :: blkR T 32 #[.pointer (some ⟨m, 0, none⟩)] :: (K ++ R0)) from hs); clear hs ht HKT y0))
      have hcnt2 := HST2.out.count hnd hcl HC1.out
      have hdl2 : d + d2 ≤ rs.length := by
        have := List.countP_le_length (p := C2.sc) (l := rs)
        omega
      clear hcnt2
      go_roundw
      case rel => exact ⟨d + d2, C2, by go_num, HST2.out, HS8.out⟩
      case measure => simp [intOf]; omega
set_option maxRecDepth 100000 in
set_option maxHeartbeats 8000000 in
theorem EFinish_yu (hit : Iter Tryz.prog gf lb (fun i : Nat => #[.int .i64 (i : Int)]) l (fun _ => K)) (eg : ∀ args w, (callFunc gf args).run Tryz.prog w = .ok (.enter gf args) w) (hl : ∀ x ∈ l, 0 < x ∧ x < n)
    (hwf : A.Wf) (hn : A.size = (n : Int)) (hn2 : A.n ≤ 1000) (hH : Heap A (fun x => x ∈ rs) fs) (hnd : rs.Nodup) (hcl : ∀ x ∈ rs, ∀ y ∈ ptsOf fs x, y ∈ rs) (hlen : rs.length ≤ 1000000) (hmz : ∀ x, (C).mz x = true → x ∈ rs)
    (S : Sep w0 w (K ++ (yuaR b m :: markR m a n (C) :: arenaR a A :: R0))) :
    Calls Tryz.prog 29 #[.iface 73 (.pointer (some ⟨b, 0, none⟩)), .pointer (some ⟨m, 0, none⟩), .func (.func gf) #[] lb] w fun e w' => ∃ (d : Nat) (C' : Col), e = .returned (.int .i64 (d : Int)) ∧ Steps (ptsOf fs) d C C' ∧ (∀ x, C'.grey x = false) ∧ Sep w0 w' (K ++ (yuaR b m :: markR m a n (C') :: arenaR a A :: R0)) := by
  obtain ⟨T, hT⟩ : ∃ T, w.heap.size = T := ⟨_, rfl⟩
  have hb := S.box #[.pointer (some ⟨m, 0, none⟩)] 32
  rw [hT] at hb
  have HNN := Lib.hid (show n = A.n * 32 + 1 by unfold AR.size at hn; omega)
  have y0 := (hb.blk 0 rfl).cell 0
  simp only [List.getElem?_toArray, List.getElem?_cons_zero] at y0
  obtain ⟨Ds, hDs⟩ : ∃ Ds : List Nat, [] = Ds := ⟨_, rfl⟩
  have HS5 := Lib.hid (show Sep w0 _ (yuaR b m :: markR m a n (C) :: arenaR a A :: marksR Ds :: blkR T 32 #[.pointer (some ⟨m, 0, none⟩)] :: (K ++ R0)) from by
    rw [← hDs]
    exact (hb.noMarks.perm ((perm_mid [marksR [], blkR T 32 #[.pointer (some ⟨m, 0, none⟩)]] K (yuaR b m :: markR m a n (C) :: arenaR a A :: R0)).trans (perm_mid K [marksR [], blkR T 32 #[.pointer (some ⟨m, 0, none⟩)], yuaR b m, markR m a n (C), arenaR a A] R0))).front 5 [2, 3, 4])
  clear S hb
  refine calls_wide ?_
  refine callsIn_of_wp_marks Tryz.func29 rfl trivial ?_
  simp only [Tryz.ntmps29, List.size_toArray, List.length_cons, List.length_nil, Nat.reduceAdd, Nat.reduceSub, Array.replicate_succ, Array.replicate_zero, List.push_toArray, List.append_toArray, List.nil_append, List.cons_append]
  refine wpIn_wide.2 ?_
  go_wp2_with (first
    | (go_at_call 158; refine (YRescans _ b).mono ?_; rintro e w5 ⟨rfl, rfl⟩)
    | (go_at_call 157; refine (YRemark _ b).mono ?_; rintro e w6 ⟨rfl, rfl⟩; clear y0; have HS6 := HS5; clear HS5))
  try simp only [hT]
  clear hT
  have HC1 := Lib.hid (show ∀ x, (C).mz x = true → x ∈ rs from hmz)
  go_loopw [8] (fun nv wr => ∃ (d : Nat) (C' : Col), nv = .int .i64 (d : Int) ∧ Steps (ptsOf fs) d C C' ∧ Sep w0 wr (yuaR b m :: markR m a n (C') :: arenaR a A :: marksR Ds :: blkR T 32 #[.pointer (some ⟨m, 0, none⟩)] :: (K ++ R0))) (fun nv _ => rs.length + 1 - (intOf nv).toNat)
  case atStart => exact ⟨0, _, rfl, .zero _, HS6.out⟩
  case round =>
    clear HS6
    obtain ⟨d, C', rfl, hst, hs⟩ := hrel
    have hin : ∀ x, C'.mz x = true → x ∈ rs := hst.within (P := fun x => x ∈ rs) hcl HC1.out
    have hcnt := hst.count hnd hcl HC1.out
    have hdl : d ≤ rs.length := by
      have := List.countP_le_length (p := C'.sc) (l := rs)
      omega
    have HST := Lib.hid hst
    have HIN := Lib.hid hin
    have y0 := (hs.blk 4 rfl).cell 0
    simp only [List.getElem?_toArray, List.getElem?_cons_zero] at y0
    have HKD := Lib.hid (KDrained hs 1 rfl)
    clear hs hst hin hcnt
    by_cases hgr : ∀ x, C'.grey x = false
    · have HGRY := Lib.hid hgr
      clear hgr
      go_wp2_with (go_at_call 23; refine (HKD.out).mono ?_; rintro e w7 ⟨bq, rfl, hb, hs⟩; obtain rfl : bq = true := hb.2 HGRY.out; have HS7 := Lib.hid hs; clear hs hb HKD)
      subst hDs
      exact leavesM (L := yuaR b m :: markR m a n (C') :: arenaR a A :: blkR T 32 #[.pointer (some ⟨m, 0, none⟩)] :: (K ++ R0)) (fun w' hs => ⟨_, results_tmp rfl _ _ _, d, C', rfl, HST.out, HGRY.out, (show Sep w0 w' ([yuaR b m, markR m a n (C'), arenaR a A] ++ (K ++ R0)) from (hs.front 4 [3, 0, 1, 2]).tail).perm (perm_mid _ K R0)⟩) [] _ (HS7.out.front 4 [3, 0, 1, 2])
    · have HGRY := Lib.hid hgr
      clear hgr
      go_wp2_with (first
        | (go_at_call 23; refine (HKD.out).mono ?_; rintro e w7 ⟨bq, rfl, hb, hs⟩; have hbq : bq = false := (by cases bq with | false => rfl | true => exact absurd (hb.1 rfl) HGRY.out); subst hbq; clear y0; have y0 := (hs.blk 4 rfl).cell 0; simp only [List.getElem?_toArray, List.getElem?_cons_zero] at y0; have HKT := Lib.hid (KTrace hH hn HIN.out hs 1 2 rfl rfl (by decide) 16 (by omega)); clear hs hb HKD)
        | (go_at_call 20; refine (HKT.out).mono ?_; rintro e w8 ⟨d2, C2, rfl, ht, hs⟩; have hd16 := ht.most; have hd0 : 0 < d2 := (by rcases Nat.eq_zero_or_pos d2 with h0 | h0; exact absurd (fun x => by have h1 := ht.end_ (by omega) x; rw [ht.steps.same0 h0] at h1; exact h1) HGRY.out; exact h0); have HST2 := Lib.hid (HST.out.trans ht.steps); have HS8 := Lib.hid (show Sep w0 w8 (yuaR b m :: markR m a n (C2) :: arenaR a A :: marksR Ds :: blkR T 32 #[.pointer (some ⟨m, 0, none⟩)] :: (K ++ R0)) from hs); clear hs ht HKT y0))
      have hcnt2 := HST2.out.count hnd hcl HC1.out
      have hdl2 : d + d2 ≤ rs.length := by
        have := List.countP_le_length (p := C2.sc) (l := rs)
        omega
      clear hcnt2
      go_roundw
      case rel => exact ⟨d + d2, C2, by go_num, HST2.out, HS8.out⟩
      case measure => simp [intOf]; omega
set_option maxRecDepth 100000 in
set_option maxHeartbeats 8000000 in
theorem EFinish_vy (hit : Iter Tryz.prog gf lb (fun i : Nat => #[.int .i64 (i : Int)]) l (fun _ => K)) (eg : ∀ args w, (callFunc gf args).run Tryz.prog w = .ok (.enter gf args) w) (hl : ∀ x ∈ l, 0 < x ∧ x < n)
    (hwf : A.Wf) (hn : A.size = (n : Int)) (hn2 : A.n ≤ 1000) (hH : Heap A (fun x => x ∈ rs) fs) (hnd : rs.Nodup) (hcl : ∀ x ∈ rs, ∀ y ∈ ptsOf fs x, y ∈ rs) (hlen : rs.length ≤ 1000000) (hmz : ∀ x, (((C.shades l).shades (V.what (elems (A.n * 32 + 1) A.tk)))).mz x = true → x ∈ rs)
    (S : Sep w0 w (K ++ (vybR b m n V :: markR m a n (C) :: arenaR a A :: R0))) :
    Calls Tryz.prog 29 #[.iface 75 (.pointer (some ⟨b, 0, none⟩)), .pointer (some ⟨m, 0, none⟩), .func (.func gf) #[] lb] w fun e w' => ∃ (d : Nat) (C' : Col), e = .returned (.int .i64 (d : Int)) ∧ Steps (ptsOf fs) d ((C.shades l).shades (V.what (elems (A.n * 32 + 1) A.tk))) C' ∧ (∀ x, C'.grey x = false) ∧ Sep w0 w' (K ++ (vybR b m n V :: markR m a n (C') :: arenaR a A :: R0)) := by
  obtain ⟨T, hT⟩ : ∃ T, w.heap.size = T := ⟨_, rfl⟩
  have hb := S.box #[.pointer (some ⟨m, 0, none⟩)] 32
  rw [hT] at hb
  have HNN := Lib.hid (show n = A.n * 32 + 1 by unfold AR.size at hn; omega)
  have y0 := (hb.blk 0 rfl).cell 0
  simp only [List.getElem?_toArray, List.getElem?_cons_zero] at y0
  have HB := Lib.hid (show Sep w0 _ (K ++ (marksR [] :: (blkR T 32 #[.pointer (some ⟨m, 0, none⟩)] :: vybR b m n V :: markR m a n (C.shades []) :: arenaR a A :: R0))) from (hb.noMarks.perm (perm_mid [marksR [], blkR T 32 #[.pointer (some ⟨m, 0, none⟩)]] K (vybR b m n V :: markR m a n (C) :: arenaR a A :: R0))))
  clear S hb
  refine calls_wide ?_
  refine callsIn_of_wp_marks Tryz.func29 rfl trivial ?_
  simp only [Tryz.ntmps29, List.size_toArray, List.length_cons, List.length_nil, Nat.reduceAdd, Nat.reduceSub, Array.replicate_succ, Array.replicate_zero, List.push_toArray, List.append_toArray, List.nil_append, List.cons_append]
  refine wpIn_wide.2 ?_
  go_wp2_with (go_at_call 163; refine (VRescans _ b).mono ?_; rintro e w5 ⟨rfl, rfl⟩)
  try simp only [hT]
  clear hT y0
  refine (wpIn_wide (n := 0)).1 ?_
  refine wp_rangeM (Ds := []) (gf := gf) (lb := lb) rfl eg hit (fun _ => rfl) HB.out
    (fun pre Rs => Rs = blkR T 32 #[.pointer (some ⟨m, 0, none⟩)] :: vybR b m n V :: markR m a n (C.shades pre) :: arenaR a A :: R0) (fun _ _ _ => False) rfl ?round ?done ?stop
  case stop => rintro _ _ _ _ _ _ h; exact h.elim
  case round =>
    rintro l1 pre x _ G W1 r hpre rfl hS1
    have hx := hl x (hpre.subset (by simp))
    have HS1 := Lib.hid hS1
    clear hpre hS1 HB
    gi_wp2
    refine ⟨[], HS1.out, ?_⟩
    intro r' W2 hS2
    have hS3 := hS2.perm (perm_mid K [objR l1 (.loop r'), blkR T 32 #[.pointer (some ⟨m, 0, none⟩)], vybR b m n V, markR m a n (C.shades pre), arenaR a A] (R0 ++ G))
    simp only [List.cons_append, List.nil_append] at hS3
    have y0 := (hS3.blk 1 rfl).cell 0
    simp only [List.getElem?_toArray, List.getElem?_cons_zero] at y0
    have HSH := Lib.hid (KShade hS3 3 rfl x hx.1 hx.2)
    clear hS2 hS3 HS1
    gi_wp2_with (gi_at_call 13; refine (calls_round (HSH.out)).mono ?_; rintro e w3 ⟨rfl, hs⟩; have HS4 := Lib.hid hs; clear hs HSH y0)
    refine ⟨_, rfl, ?_⟩
    rw [shades_push]
    exact (show Sep w0 _ ([objR l1 (.loop r'), blkR T 32 #[.pointer (some ⟨m, 0, none⟩)], vybR b m n V, markR m a n ((C.shades pre).shade x), arenaR a A] ++ (K ++ (R0 ++ G))) from HS4.out).perm (perm_mid _ K (R0 ++ G))
  rintro Ds _ V1 hR hS
  subst hR
  have HS5 := Lib.hid (show Sep w0 V1 (vybR b m n V :: markR m a n (C.shades l) :: arenaR a A :: marksR Ds :: blkR T 32 #[.pointer (some ⟨m, 0, none⟩)] :: (K ++ R0)) from (hS.perm (perm_mid K [marksR Ds, blkR T 32 #[.pointer (some ⟨m, 0, none⟩)], vybR b m n V, markR m a n (C.shades l), arenaR a A] R0)).front 5 [2, 3, 4])
  clear hS HB
  have y0 := (HS5.out.blk 4 rfl).cell 0
  simp only [List.getElem?_toArray, List.getElem?_cons_zero] at y0
  go_wp2_with (go_at_call 162; refine (PRemark HS5.out hn hwf).mono ?_; rintro e w6 ⟨rfl, hs⟩; clear y0; have HS6 := Lib.hid (show Sep w0 w6 (vybR b m n V :: markR m a n (((C.shades l).shades (V.what (elems (A.n * 32 + 1) A.tk)))) :: arenaR a A :: marksR Ds :: blkR T 32 #[.pointer (some ⟨m, 0, none⟩)] :: (K ++ R0)) from (by have h1 := hs; rw [show n = A.n * 32 + 1 from HNN.out] at h1 ⊢; exact h1)); clear hs HS5)
  have HC1 := Lib.hid (show ∀ x, (((C.shades l).shades (V.what (elems (A.n * 32 + 1) A.tk)))).mz x = true → x ∈ rs from hmz)
  go_loopw [8] (fun nv wr => ∃ (d : Nat) (C' : Col), nv = .int .i64 (d : Int) ∧ Steps (ptsOf fs) d ((C.shades l).shades (V.what (elems (A.n * 32 + 1) A.tk))) C' ∧ Sep w0 wr (vybR b m n V :: markR m a n (C') :: arenaR a A :: marksR Ds :: blkR T 32 #[.pointer (some ⟨m, 0, none⟩)] :: (K ++ R0))) (fun nv _ => rs.length + 1 - (intOf nv).toNat)
  case atStart => exact ⟨0, _, rfl, .zero _, HS6.out⟩
  case round =>
    clear HS6
    obtain ⟨d, C', rfl, hst, hs⟩ := hrel
    have hin : ∀ x, C'.mz x = true → x ∈ rs := hst.within (P := fun x => x ∈ rs) hcl HC1.out
    have hcnt := hst.count hnd hcl HC1.out
    have hdl : d ≤ rs.length := by
      have := List.countP_le_length (p := C'.sc) (l := rs)
      omega
    have HST := Lib.hid hst
    have HIN := Lib.hid hin
    have y0 := (hs.blk 4 rfl).cell 0
    simp only [List.getElem?_toArray, List.getElem?_cons_zero] at y0
    have HKD := Lib.hid (KDrained hs 1 rfl)
    clear hs hst hin hcnt
    by_cases hgr : ∀ x, C'.grey x = false
    · have HGRY := Lib.hid hgr
      clear hgr
      go_wp2_with (go_at_call 23; refine (HKD.out).mono ?_; rintro e w7 ⟨bq, rfl, hb, hs⟩; obtain rfl : bq = true := hb.2 HGRY.out; have HS7 := Lib.hid hs; clear hs hb HKD)
      exact leavesM (L := vybR b m n V :: markR m a n (C') :: arenaR a A :: blkR T 32 #[.pointer (some ⟨m, 0, none⟩)] :: (K ++ R0)) (fun w' hs => ⟨_, results_tmp rfl _ _ _, d, C', rfl, HST.out, HGRY.out, (show Sep w0 w' ([vybR b m n V, markR m a n (C'), arenaR a A] ++ (K ++ R0)) from (hs.front 4 [3, 0, 1, 2]).tail).perm (perm_mid _ K R0)⟩) Ds _ (HS7.out.front 4 [3, 0, 1, 2])
    · have HGRY := Lib.hid hgr
      clear hgr
      go_wp2_with (first
        | (go_at_call 23; refine (HKD.out).mono ?_; rintro e w7 ⟨bq, rfl, hb, hs⟩; have hbq : bq = false := (by cases bq with | false => rfl | true => exact absurd (hb.1 rfl) HGRY.out); subst hbq; clear y0; have y0 := (hs.blk 4 rfl).cell 0; simp only [List.getElem?_toArray, List.getElem?_cons_zero] at y0; have HKT := Lib.hid (KTrace hH hn HIN.out hs 1 2 rfl rfl (by decide) 16 (by omega)); clear hs hb HKD)
        | (go_at_call 20; refine (HKT.out).mono ?_; rintro e w8 ⟨d2, C2, rfl, ht, hs⟩; have hd16 := ht.most; have hd0 : 0 < d2 := (by rcases Nat.eq_zero_or_pos d2 with h0 | h0; exact absurd (fun x => by have h1 := ht.end_ (by omega) x; rw [ht.steps.same0 h0] at h1; exact h1) HGRY.out; exact h0); have HST2 := Lib.hid (HST.out.trans ht.steps); have HS8 := Lib.hid (show Sep w0 w8 (vybR b m n V :: markR m a n (C2) :: arenaR a A :: marksR Ds :: blkR T 32 #[.pointer (some ⟨m, 0, none⟩)] :: (K ++ R0)) from hs); clear hs ht HKT y0))
      have hcnt2 := HST2.out.count hnd hcl HC1.out
      have hdl2 : d + d2 ≤ rs.length := by
        have := List.countP_le_length (p := C2.sc) (l := rs)
        omega
      clear hcnt2
      go_roundw
      case rel => exact ⟨d + d2, C2, by go_num, HST2.out, HS8.out⟩
      case measure => simp [intOf]; omega
theorem EFinish (E : Eng) (hit : Iter Tryz.prog gf lb (fun i : Nat => #[.int .i64 (i : Int)]) l (fun _ => K)) (eg : ∀ args w, (callFunc gf args).run Tryz.prog w = .ok (.enter gf args) w) (hl : ∀ x ∈ l, 0 < x ∧ x < n)
    (hwf : A.Wf) (hn : A.size = (n : Int)) (hn2 : A.n ≤ 1000) (hok : E.ok A.n) (hH : Heap A (fun x => x ∈ rs) fs) (hnd : rs.Nodup) (hcl : ∀ x ∈ rs, ∀ y ∈ ptsOf fs x, y ∈ rs) (hlen : rs.length ≤ 1000000) (hmz : ∀ x, (E.fin A l C).mz x = true → x ∈ rs)
    (S : Sep w0 w (K ++ (engR b m a A.n n E :: markR m a n (C) :: arenaR a A :: R0))) :
    Calls Tryz.prog 29 #[engV b E, .pointer (some ⟨m, 0, none⟩), .func (.func gf) #[] lb] w fun e w' => ∃ (d : Nat) (C' : Col), e = .returned (.int .i64 (d : Int)) ∧ Steps (ptsOf fs) d (E.fin A l C) C' ∧ (∀ x, C'.grey x = false) ∧ Sep w0 w' (K ++ (engR b m a A.n n (E.remark A C).1 :: markR m a n (C') :: arenaR a A :: R0)) := by
  cases E with
  | st D => exact EFinish_st hit eg hl hwf hn hn2 hok hH hnd hcl hlen hmz S
  | dj => exact EFinish_dj hit eg hl hwf hn hn2 hH hnd hcl hlen hmz S
  | yu => exact EFinish_yu hit eg hl hwf hn hn2 hH hnd hcl hlen hmz S
  | vy V => exact EFinish_vy hit eg hl hwf hn hn2 hH hnd hcl hlen hmz S
end
end Go.Proofs.YtbcabjpafeocgaaGreat

/-
  Plain facts for layer 11's MarkBlacks. Conditions: as each theorem says.
-/
namespace Go.Proofs.YtbcabjpafeocgaaGreat
set_option linter.unusedVariables false
set_option linter.unusedSimpArgs false

def Col.blacks (C : Col) (l : List Nat) : Col := l.foldl Col.black C
/-- Those of l lead nowhere. -/
def cutT (T : Nat → List Nat) (l : List Nat) : Nat → List Nat := fun x => if x ∈ l then [] else T x
section
variable {pts : Nat → List Nat} {d : Nat} {C : Col} {l out : List Nat} {k x : Nat}
theorem blacks_next (h : l[k]? = some x) : (C.blacks (l.take k)).black x = C.blacks (l.take (k + 1)) := by
  rw [List.take_add_one, h]
  simp [Col.blacks]
theorem blacks_mz (l : List Nat) : ∀ (C : Col) (x : Nat), (C.blacks l).mz x = (C.mz x || decide (x ∈ l)) ∧ (C.blacks l).sc x = (C.sc x || decide (x ∈ l)) := by
  induction l with
  | nil => intro C x; simp [Col.blacks]
  | cons a l ih =>
    intro C x
    show ((C.black a).blacks l).mz x = _ ∧ ((C.black a).blacks l).sc x = _
    rw [(ih _ x).1, (ih _ x).2]
    simp only [Col.black, List.mem_cons]
    by_cases h1 : x = a <;> by_cases h2 : x ∈ l <;> simp [h1, h2]
theorem cutT_none (T : Nat → List Nat) : cutT T [] = T := by funext x; simp [cutT]
theorem cutT_next (T : Nat → List Nat) (h : l[k]? = some x) : updT (cutT T (l.take k)) x [] = cutT T (l.take (k + 1)) := by
  funext y
  rw [List.take_add_one, h]
  by_cases e : y = x
  · subst e; simp [updT, cutT]
  · simp [updT, cutT, e]
theorem mem_next (h : l[k]? = some x) : putB (fun y => decide (y ∈ l.take k)) x = fun y => decide (y ∈ l.take (k + 1)) := by
  funext y
  rw [List.take_add_one, h]
  simp [putB]
theorem Field_.cut {objs : List Nat} {T : Nat → List Nat} (h : Field_ objs T) (l : List Nat) : Field_ objs (cutT T l) :=
  ⟨h.nodup, h.few, h.lt, fun x => by
    unfold cutT
    split
    · simp
    · exact h.short x, fun x hx y hy => by
    unfold cutT at hy
    split at hy
    · cases hy
    · exact h.into x hx y hy⟩
/-- What black ones alone lead to stays white. -/
theorem blacks_end (h : Steps pts d ((Col.white.blacks l).shades out) C) (hno : ∀ x, C.grey x = false) (x : Nat) : C.mz x = true ↔ (Leads (cutT pts l) (fun x => x ∈ out) x ∨ x ∈ l) := by
  have hsc : ∀ x, ((Col.white.blacks l).shades out).sc x = decide (x ∈ l) := fun x => by rw [shades_sc, (blacks_mz l _ x).2]; simp [Col.white]
  have hmz : ∀ x, ((Col.white.blacks l).shades out).mz x = true ↔ (x ∈ l ∨ x ∈ out) := fun x => by rw [shades_mz, (blacks_mz l _ x).1]; simp [Col.white]
  have h2 : Steps (cutT pts l) d ((Col.white.blacks l).shades out) C := h.blind (fun x hx => by
    rw [hsc] at hx
    simp only [decide_eq_false_iff_not] at hx
    simp [cutT, hx])
  rw [h2.done hno (fun y hy z hz => by
    rw [hsc] at hy
    simp only [decide_eq_true_eq] at hy
    simp [cutT, hy] at hz) x]
  constructor
  · intro hl
    induction hl with
    | base hb =>
      rcases (hmz _).1 hb with h1 | h1
      · exact .inr h1
      · exact .inl (.base h1)
    | @step x y _ hy ih =>
      rcases ih with h1 | h1
      · exact .inl (.step h1 hy)
      · simp [cutT, h1] at hy
  · rintro (hl | hl)
    · exact leads_mono (fun x hx => (hmz x).2 (.inr hx)) (fun _ _ h => h) x hl
    · exact .base ((hmz x).2 (.inl hl))
end
end Go.Proofs.YtbcabjpafeocgaaGreat

/-
  Which of a list were chosen, and what a trace does where nothing points anywhere (laws SteeleWhite, SteelePages). Conditions: as each theorem says; no walk.
-/
namespace Go.Proofs.YtbcabjpafeocgaaGreat
set_option linter.unusedVariables false
set_option linter.unusedSimpArgs false
open Go.RowKit Go.Shelf

/-- Byte i says so. -/
def gB (n : Nat) (D : Nat → Nat → Int) (i : Nat) : Bool := decide (i < n) && decide (D i 0 % 2 = 1)
/-- K are those of the first k that the bytes name. -/
structure Picked (rs : List Nat) (n : Nat) (D : Nat → Nat → Int) (k : Nat) (K : List Nat) : Prop where
  nodup : K.Nodup
  sub : ∀ x ∈ K, x ∈ rs.take k
  le : K.length ≤ k
  iff : ∀ i x, rs[i]? = some x → i < k → (decide (x ∈ K) = gB n D i)
section
variable {rs K : List Nat} {n k x : Nat} {D : Nat → Nat → Int} {C C' : Col} {A : AR} {fs : Nat → List Nat}
theorem Picked.start : Picked rs n D 0 [] := ⟨List.nodup_nil, fun x h => by simp at h, by simp, fun i x _ h => by omega⟩
theorem Picked.fresh (h : Picked rs n D k K) (hn : rs.Nodup) (hx : rs[k]? = some x) : x ∉ K := fun hm => nodup_take hn hx (h.sub x hm)
theorem Picked.yes (h : Picked rs n D k K) (hn : rs.Nodup) (hx : rs[k]? = some x) (hg : gB n D k = true) : Picked rs n D (k + 1) (K ++ [x]) := by
  have hf := h.fresh hn hx
  refine ⟨List.nodup_append.2 ⟨h.nodup, by simp, fun a ha b hb e => hf (by simp at hb; rw [← hb, ← e]; exact ha)⟩, fun y hy => ?_, by rw [List.length_append]; have := h.le; simp; omega, fun i y hy hi => ?_⟩
  · rw [take_succ_mem hx]
    exact (List.mem_append.1 hy).imp (h.sub y) (fun e => by simpa using e)
  · by_cases e : i = k
    · subst e
      rw [hx] at hy
      cases hy
      rw [hg]
      simp
    · have hne : y ≠ x := fun e2 => by
        subst e2
        obtain ⟨h1, h2⟩ := List.getElem?_eq_some_iff.1 hy
        obtain ⟨h3, h4⟩ := List.getElem?_eq_some_iff.1 hx
        exact e ((List.getElem_inj hn).1 (h2.trans h4.symm))
      rw [← h.iff i y hy (by omega)]
      simp [hne]
theorem Picked.no (h : Picked rs n D k K) (hn : rs.Nodup) (hx : rs[k]? = some x) (hg : gB n D k = false) : Picked rs n D (k + 1) K := by
  refine ⟨h.nodup, fun y hy => by rw [take_succ_mem hx]; exact .inl (h.sub y hy), by have := h.le; omega, fun i y hy hi => ?_⟩
  by_cases e : i = k
  · subst e
    rw [hx] at hy
    cases hy
    rw [hg]
    exact decide_eq_false (h.fresh hn hx)
  · exact h.iff i y hy (by omega)
theorem Picked.in_ (h : Picked rs n D k K) : ∀ x ∈ K, x ∈ rs := fun x hx => List.mem_of_mem_take (h.sub x hx)
theorem blacks_push (C : Col) (K : List Nat) (x : Nat) : C.blacks (K ++ [x]) = (C.blacks K).black x := by simp [Col.blacks]
theorem white_mz (K : List Nat) (x : Nat) : (Col.white.shades K).mz x = decide (x ∈ K) := by rw [shades_mz]; simp [Col.white]
theorem white_sc (K : List Nat) (x : Nat) : (Col.white.shades K).sc x = false := by rw [shades_sc]; rfl
theorem greyD_white (h : ∀ x, C.sc x = false) (D : Nat → Bool) : C.greyD A D = C := Col.ext (fun _ => rfl) (fun x => by simp [Col.greyD, h x])
theorem greyD_none : C.greyD A (fun _ => false) = C := Col.ext (fun _ => rfl) (fun x => by simp [Col.greyD])
theorem white_count (hn : K.Nodup) {N : Nat} (hl : ∀ x ∈ K, x < N) : (elems N (Col.white.shades K).mz).length = K.length := by
  rw [elems_count hn hl (fun x hx => by rw [white_mz] at hx; exact of_decide_eq_true hx)]
  exact List.countP_eq_length.2 (fun x hx => by rw [white_mz]; exact decide_eq_true hx)
/-- A trace to the end, where nothing points anywhere. -/
theorem bare_trace {pts : Nat → List Nat} {d : Nat} (hb : ∀ x, pts x = []) (hr : rs.Nodup) (hK : K.Nodup) (hin : ∀ x ∈ K, x ∈ rs) (h : Steps pts d (Col.white.shades K) C') (hno : ∀ x, C'.grey x = false) : d = K.length := by
  have hsub : ∀ x, C'.sc x = true → C'.mz x = true := h.sub (fun x hx => by rw [white_sc] at hx; cases hx)
  have hend := Steps.end_ hno hsub
  have hwi := h.within (P := fun x => x ∈ K) (fun x _ y hy => by rw [hb] at hy; simp at hy) (fun x hx => by rw [white_mz] at hx; exact of_decide_eq_true hx)
  have hmo := h.mono.1
  have hc := h.count hK (fun x _ y hy => by rw [hb] at hy; simp at hy) (fun x hx => by rw [white_mz] at hx; exact of_decide_eq_true hx)
  rw [List.countP_eq_length.2 (fun x hx => by rw [hend]; exact hmo x (by rw [white_mz]; exact decide_eq_true hx)), List.countP_eq_zero.2 (fun x _ => by rw [white_sc]; simp)] at hc
  omega
/-- All of rs are black but those of page q, which are grey: so many are scanned. -/
theorem page_trace {pts : Nat → List Nat} {d q : Nat} (hr : rs.Nodup) (hc : ∀ x ∈ rs, ∀ y ∈ pts x, y ∈ rs) (hm : ∀ x, C.mz x = true ↔ x ∈ rs) (hs : ∀ x ∈ rs, C.sc x = !decide ((x - 1) / 32 = q)) (hs2 : ∀ x, C.sc x = true → C.mz x = true) (h : Steps pts d C C') (hno : ∀ x, C'.grey x = false) : d = rs.countP fun x => decide ((x - 1) / 32 = q) := by
  have hend := Steps.end_ hno (h.sub hs2)
  have h1 := h.count hr hc (fun x hx => (hm x).1 hx)
  rw [List.countP_eq_length.2 (fun x hx => by rw [hend]; exact h.mono.1 x ((hm x).2 hx)), List.countP_congr (fun x hx => by rw [hs x hx])] at h1
  have h2 := List.length_eq_countP_add_countP (fun x => decide ((x - 1) / 32 = q)) (l := rs)
  have h3 : rs.countP (fun x => !decide ((x - 1) / 32 = q)) = rs.countP (fun x => decide ¬(decide ((x - 1) / 32 = q)) = true) := List.countP_congr (fun x _ => by by_cases e : (x - 1) / 32 = q <;> simp [e])
  omega
end
end Go.Proofs.YtbcabjpafeocgaaGreat

/-
  A barrier that knows nothing yet; how marking ends then (layer 16). Conditions: as each theorem says; no walk.
-/
namespace Go.Proofs.YtbcabjpafeocgaaGreat
set_option linter.unusedVariables false
set_option linter.unusedSimpArgs false
open Go.RowKit Go.Shelf

section
variable {A : AR} {C C' : Col} {E : Eng} {l rs : List Nat} {e lg : Int} {pts : Nat → List Nat} {d : Nat}
/-- A barrier that was told nothing since its start. -/
def Eng.idle : Eng → Prop
  | .st D => D = fun _ => false
  | .vy V => (∀ x, V.cnt x = 0) ∧ V.log = [] ∧ V.over = false
  | _ => True
theorem Eng.new_idle (e lg : Int) : (Eng.new e lg).idle := by
  unfold Eng.new
  split
  · rfl
  · split
    · trivial
    · split
      · trivial
      · exact ⟨fun _ => rfl, rfl, rfl⟩
theorem Eng.reset_idle (E : Eng) : E.reset.idle := by
  cases E with
  | st D => rfl
  | dj => trivial
  | yu => trivial
  | vy V => exact ⟨fun _ => rfl, rfl, rfl⟩
theorem Eng.idle_ok (h : E.idle) (N : Nat) : E.ok N := by
  cases E with
  | st D => unfold Eng.idle at h; subst h; intro i hi; cases hi
  | dj => trivial
  | yu => trivial
  | vy V => trivial
theorem Eng.idle_remark (h : E.idle) : E.remark A C = (E, C) := by
  cases E with
  | st D => unfold Eng.idle at h; subst h; show (Eng.st (fun _ => false), C.greyD A (fun _ => false)) = _; rw [greyD_none]
  | dj => rfl
  | yu => rfl
  | vy V =>
    unfold Eng.idle at h
    show (Eng.vy V, C.shades (V.what _)) = _
    unfold Vy.what
    rw [h.2.2, h.2.1]
    rfl
theorem Eng.idle_fin (h : E.idle) : E.fin A l C = if E.rescans = true then C.shades l else C := by
  unfold Eng.fin
  rw [Eng.idle_remark h]
theorem shades_app (C : Col) (l k : List Nat) : (C.shades l).shades k = C.shades (l ++ k) := by simp [Col.shades]
/-- Behind a list that was shaded by itself: again the same. -/
theorem shades_twice {k : List Nat} (C : Col) (h : ∀ x ∈ k, x ∈ l) : (C.shades l).shades k = C.shades l := by
  refine Col.ext (fun x => ?_) (fun x => ?_)
  · rw [shades_mz, shades_mz]
    by_cases e1 : x ∈ k
    · simp [e1, h x e1]
    · simp [e1]
  · rw [shades_sc, shades_sc]
/-- What was shaded of a white graph leads to just what is marked in the end; all of it was scanned; so many. -/
theorem white_end (hn : rs.Nodup) (hc : ∀ x ∈ rs, ∀ y ∈ pts x, y ∈ rs) (hl : ∀ x ∈ l, x ∈ rs) (h : Steps pts d (Col.white.shades l) C') (hno : ∀ x, C'.grey x = false) :
    (∀ x, C'.mz x = true ↔ Leads pts (fun x => x ∈ l) x) ∧ (∀ x, C'.sc x = C'.mz x) ∧ rs.countP C'.mz = d := by
  have hsub : ∀ x, C'.sc x = true → C'.mz x = true := h.sub (fun x hx => by rw [white_sc] at hx; cases hx)
  have hend := Steps.end_ hno hsub
  have hd := h.done hno (fun x hx => by rw [white_sc] at hx; cases hx)
  have hin : ∀ x, (Col.white.shades l).mz x = true → x ∈ rs := fun x hx => by rw [white_mz] at hx; exact hl x (of_decide_eq_true hx)
  have hcnt := h.count hn hc hin
  rw [show rs.countP (Col.white.shades l).sc = 0 from List.countP_eq_zero.2 (fun x _ => by rw [white_sc]; simp), Nat.zero_add] at hcnt
  refine ⟨fun x => (hd x).trans ?_, hend, ?_⟩
  · constructor
    · exact leads_mono (fun y hy => by rw [white_mz] at hy; exact of_decide_eq_true hy) (fun _ _ h => h) x
    · exact leads_mono (fun y hy => by rw [white_mz]; exact decide_eq_true hy) (fun _ _ h => h) x
  · rw [← hcnt]
    exact List.countP_congr (fun x _ => by rw [hend])
theorem Steps.stuck (h : Steps pts d C C') (hno : ∀ x, C.grey x = false) : d = 0 ∧ C' = C := by
  have h0 : d = 0 := by
    induction h with
    | zero => rfl
    | succ r h hg ih =>
      have h1 := ih hno
      have h2 := h.same0 h1
      rw [h2, hno r] at hg
      cases hg
  exact ⟨h0, h.same0 h0⟩
end
end Go.Proofs.YtbcabjpafeocgaaGreat

/-
  The bits of a byte, as the walk spells them. Conditions: numbers between 0 and 255.
-/
namespace Go.Proofs.YtbcabjpafeocgaaGreat
open Go.RowKit

/-- Bit t of x. -/
def bitZ (x t : Int) : Bool := bits .and .u8 (x / 2 ^ t.toNat) 1 == 1

theorem bit_nat (x t : Nat) (hx : x < 256) : bitZ (x : Int) (t : Int) = x.testBit t := by
  have hd : x / 2 ^ t < 256 := Nat.lt_of_le_of_lt (Nat.div_le_self _ _) hx
  unfold bitZ
  rw [Int.toNat_natCast]
  have h1 : ((x : Int) / 2 ^ t) = ((x / 2 ^ t : Nat) : Int) := by simp
  rw [h1]
  have h2 := u8_and_nat (x / 2 ^ t) 1 hd (by omega)
  rw [show ((1 : Nat) : Int) = 1 from rfl] at h2
  rw [h2, Nat.and_one_is_mod, Nat.testBit_eq_decide_div_mod_eq]
  rw [Bool.eq_iff_iff]
  simp
  omega

theorem byte_nat {x : Int} (h0 : 0 ≤ x) (h1 : x ≤ 255) : ∃ n : Nat, x = n ∧ n < 256 := ⟨x.toNat, by omega, by omega⟩

theorem bit_and {x y t : Int} (hx0 : 0 ≤ x) (hx1 : x ≤ 255) (hy0 : 0 ≤ y) (hy1 : y ≤ 255) (ht : 0 ≤ t) : bitZ (bits .and .u8 x y) t = (bitZ x t && bitZ y t) := by
  obtain ⟨a, rfl, ha⟩ := byte_nat hx0 hx1
  obtain ⟨b, rfl, hb⟩ := byte_nat hy0 hy1
  obtain ⟨k, rfl⟩ := Int.eq_ofNat_of_zero_le ht
  rw [u8_and_nat a b ha hb, bit_nat _ _ (Nat.lt_of_le_of_lt Nat.and_le_left ha), bit_nat _ _ ha, bit_nat _ _ hb, Nat.testBit_and]

theorem or_lt {a b : Nat} (ha : a < 256) (hb : b < 256) : a ||| b < 256 := Nat.or_lt_two_pow (n := 8) ha hb

theorem bit_or {x y t : Int} (hx0 : 0 ≤ x) (hx1 : x ≤ 255) (hy0 : 0 ≤ y) (hy1 : y ≤ 255) (ht : 0 ≤ t) : bitZ (bits .or .u8 x y) t = (bitZ x t || bitZ y t) := by
  obtain ⟨a, rfl, ha⟩ := byte_nat hx0 hx1
  obtain ⟨b, rfl, hb⟩ := byte_nat hy0 hy1
  obtain ⟨k, rfl⟩ := Int.eq_ofNat_of_zero_le ht
  rw [u8_or_nat a b ha hb, bit_nat _ _ (or_lt ha hb), bit_nat _ _ ha, bit_nat _ _ hb, Nat.testBit_or]

theorem and_byte {x y : Int} (hx0 : 0 ≤ x) (hx1 : x ≤ 255) (hy0 : 0 ≤ y) (hy1 : y ≤ 255) : 0 ≤ bits .and .u8 x y ∧ bits .and .u8 x y ≤ 255 := by
  obtain ⟨a, rfl, ha⟩ := byte_nat hx0 hx1
  obtain ⟨b, rfl, hb⟩ := byte_nat hy0 hy1
  rw [u8_and_nat a b ha hb]
  have : a &&& b ≤ a := Nat.and_le_left
  omega

theorem or_byte {x y : Int} (hx0 : 0 ≤ x) (hx1 : x ≤ 255) (hy0 : 0 ≤ y) (hy1 : y ≤ 255) : 0 ≤ bits .or .u8 x y ∧ bits .or .u8 x y ≤ 255 := by
  obtain ⟨a, rfl, ha⟩ := byte_nat hx0 hx1
  obtain ⟨b, rfl, hb⟩ := byte_nat hy0 hy1
  rw [u8_or_nat a b ha hb]
  have := or_lt ha hb
  omega

theorem bit_0 (x : Int) : (bits .and .u8 x 1 == 1) = bitZ x 0 := by unfold bitZ; simp
theorem bit_1 (x : Int) : (bits .and .u8 (x / 2) 1 == 1) = bitZ x 1 := rfl
theorem bit_2 (x : Int) : (bits .and .u8 (x / 4) 1 == 1) = bitZ x 2 := rfl
theorem bit_3 (x : Int) : (bits .and .u8 (x / 8) 1 == 1) = bitZ x 3 := rfl

theorem bit_zero (x : Int) (t : Nat) (h0 : 0 ≤ x) (h1 : x ≤ 255) : (bits .and .u8 (x / 2 ^ t) 1 == 0) = !bitZ x t := by
  obtain ⟨a, rfl, ha⟩ := byte_nat h0 h1
  have hd : a / 2 ^ t < 256 := Nat.lt_of_le_of_lt (Nat.div_le_self _ _) ha
  have e : ((a : Int) / 2 ^ t) = ((a / 2 ^ t : Nat) : Int) := by simp
  have h2 := u8_and_nat (a / 2 ^ t) 1 hd (by omega)
  rw [show ((1 : Nat) : Int) = 1 from rfl] at h2
  unfold bitZ
  rw [Int.toNat_natCast, e, h2, Nat.and_one_is_mod]
  rw [Bool.eq_iff_iff]
  simp
  omega
theorem bitz_0 (x : Int) (h0 : 0 ≤ x) (h1 : x ≤ 255) : (bits .and .u8 x 1 == 0) = !bitZ x 0 := by simpa using bit_zero x 0 h0 h1
theorem bitz_1 (x : Int) (h0 : 0 ≤ x) (h1 : x ≤ 255) : (bits .and .u8 (x / 2) 1 == 0) = !bitZ x 1 := bit_zero x 1 h0 h1
theorem bitz_2 (x : Int) (h0 : 0 ≤ x) (h1 : x ≤ 255) : (bits .and .u8 (x / 4) 1 == 0) = !bitZ x 2 := bit_zero x 2 h0 h1
theorem bitz_3 (x : Int) (h0 : 0 ≤ x) (h1 : x ≤ 255) : (bits .and .u8 (x / 8) 1 == 0) = !bitZ x 3 := bit_zero x 3 h0 h1

end Go.Proofs.YtbcabjpafeocgaaGreat

/-
  Masks of a byte. Conditions: numbers between 0 and 255.
-/
namespace Go.Proofs.YtbcabjpafeocgaaGreat
set_option linter.unusedVariables false
open Go.RowKit

theorem and8_of {x : Int} (h : 0 ≤ x ∧ x ≤ 255) (m : Nat) (hm : m < 256) (f : Nat → Nat) (hf : ∀ n : Nat, n < 256 → n &&& m = f n) : bits .and .u8 x (m : Int) = (f x.toNat : Int) := by
  obtain ⟨n, rfl, hn⟩ := byte_nat h.1 h.2
  rw [u8_and_nat n m hn hm, hf n hn]
  simp
set_option maxRecDepth 10000 in
theorem and8_1 {x : Int} (h : 0 ≤ x ∧ x ≤ 255) : bits .and .u8 x 1 = x % 2 := by
  have := and8_of h 1 (by decide) (fun n => n % 2) (fun n _ => Nat.and_two_pow_sub_one_eq_mod n 1)
  rw [show ((1 : Nat) : Int) = 1 from rfl] at this
  rw [this]; omega
theorem and8_3 {x : Int} (h : 0 ≤ x ∧ x ≤ 255) : bits .and .u8 x 3 = x % 4 := by
  have := and8_of h 3 (by decide) (fun n => n % 4) (fun n _ => Nat.and_two_pow_sub_one_eq_mod n 2)
  rw [show ((3 : Nat) : Int) = 3 from rfl] at this
  rw [this]; omega
theorem and8_7 {x : Int} (h : 0 ≤ x ∧ x ≤ 255) : bits .and .u8 x 7 = x % 8 := by
  have := and8_of h 7 (by decide) (fun n => n % 8) (fun n _ => Nat.and_two_pow_sub_one_eq_mod n 3)
  rw [show ((7 : Nat) : Int) = 7 from rfl] at this
  rw [this]; omega
theorem and8_15 {x : Int} (h : 0 ≤ x ∧ x ≤ 255) : bits .and .u8 x 15 = x % 16 := by
  have := and8_of h 15 (by decide) (fun n => n % 16) (fun n _ => Nat.and_two_pow_sub_one_eq_mod n 4)
  rw [show ((15 : Nat) : Int) = 15 from rfl] at this
  rw [this]; omega
theorem all256 {p : Nat → Prop} [DecidablePred p] (h : (List.range 256).all (fun n => decide (p n)) = true) : ∀ n : Nat, n < 256 → p n := by
  intro n hn
  have := List.all_eq_true.1 h n (List.mem_range.2 hn)
  exact of_decide_eq_true this
theorem and8_4 {x : Int} (h : 0 ≤ x ∧ x ≤ 255) : bits .and .u8 x 4 = 4 * (x / 4 % 2) := by
  have := and8_of h 4 (by decide) (fun n => 4 * (n / 4 % 2)) (all256 (by decide +kernel))
  rw [show ((4 : Nat) : Int) = 4 from rfl] at this
  rw [this]; omega
theorem and8_8 {x : Int} (h : 0 ≤ x ∧ x ≤ 255) : bits .and .u8 x 8 = 8 * (x / 8 % 2) := by
  have := and8_of h 8 (by decide) (fun n => 8 * (n / 8 % 2)) (all256 (by decide +kernel))
  rw [show ((8 : Nat) : Int) = 8 from rfl] at this
  rw [this]; omega
theorem and8_16 {x : Int} (h : 0 ≤ x ∧ x ≤ 255) : bits .and .u8 x 16 = 16 * (x / 16 % 2) := by
  have := and8_of h 16 (by decide) (fun n => 16 * (n / 16 % 2)) (all256 (by decide +kernel))
  rw [show ((16 : Nat) : Int) = 16 from rfl] at this
  rw [this]; omega
theorem and8_12 {x : Int} (h : 0 ≤ x ∧ x ≤ 255) : bits .and .u8 x 12 = 4 * (x / 4 % 4) := by
  have := and8_of h 12 (by decide) (fun n => 4 * (n / 4 % 4)) (all256 (by decide +kernel))
  rw [show ((12 : Nat) : Int) = 12 from rfl] at this
  rw [this]; omega
theorem and8_24 {x : Int} (h : 0 ≤ x ∧ x ≤ 255) : bits .and .u8 x 24 = 8 * (x / 8 % 4) := by
  have := and8_of h 24 (by decide) (fun n => 8 * (n / 8 % 4)) (all256 (by decide +kernel))
  rw [show ((24 : Nat) : Int) = 24 from rfl] at this
  rw [this]; omega
end Go.Proofs.YtbcabjpafeocgaaGreat

/-
  The contract of layer 8's Made: a configuration of raw numbers. Conditions: as the theorem says.
-/
namespace Go.Proofs.YtbcabjpafeocgaaGreat
set_option linter.unusedVariables false
set_option linter.unusedSimpArgs false
open Go.RowKit Go.Shelf

/-- A configuration of engine e, whose stack and log have so many places. -/
def CfgIs (e : Int) (v : Value) : Prop := ∃ bl p t r s g f mk lg bu, v = confV e bl p t r s g f mk lg bu ∧ 1 ≤ mk ∧ mk ≤ 16 ∧ 0 ≤ lg ∧ lg ≤ 15
set_option maxRecDepth 100000 in
set_option maxHeartbeats 4000000 in
theorem Made08 (w : World) (d0 d1 d2 d3 d4 d5 : Int) (h0 : 0 ≤ d0 ∧ d0 ≤ 255) (h1 : 0 ≤ d1 ∧ d1 ≤ 255) (h2 : 0 ≤ d2 ∧ d2 ≤ 255) (h3 : 0 ≤ d3 ∧ d3 ≤ 255) (h4 : 0 ≤ d4 ∧ d4 ≤ 255) (h5 : 0 ≤ d5 ∧ d5 ≤ 255) :
    Calls Tryz.prog 26 #[.agg #[.int .u8 d0, .int .u8 d1, .int .u8 d2, .int .u8 d3, .int .u8 d4, .int .u8 d5]] w fun e w' => ∃ v, e = .returned v ∧ CfgIs (d0 % 4) v ∧ Chg [] w w' := by
  have a0 := and8_3 h0
  have a4 := and8_15 h4
  go_enter Tryz.func26, Tryz.ntmps26
  go_wp2
  all_goals
    refine bodyPost_ret (by simp [results, Tryz.results26, go_sem]; try rfl) rfl ?_
    exact ⟨_, rfl, ⟨_, _, _, _, _, _, _, _, _, _, rfl, by omega, by omega, by omega, by omega⟩, (((Chg.refl [] w).alloc _).alloc _).alloc _⟩
end Go.Proofs.YtbcabjpafeocgaaGreat

/-
  The iterator over a list of roots (layer 16). Conditions: as the theorem says.
-/
namespace Go.Proofs.YtbcabjpafeocgaaGreat
set_option linter.unusedVariables false
set_option linter.unusedSimpArgs false
open Go.RowKit Go.Shelf
attribute [local go_sem] Oper.semAt_some wide_fn round_fn wide_depth round_depth
attribute [local simp] wide_fn round_fn wide_depth round_depth

theorem RRoots {w0 w : World} {L : List Res} (S : Sep w0 w L) (A : Option Addr) (k c : Nat) : Calls Tryz.prog 30 #[.slice A k c] w fun e w' => ∃ B, e = .returned (.func (.func 60) #[] #[.pointer (some ⟨B, 0, none⟩)]) ∧ Sep w0 w' (blkR B 25 #[.slice A k c] :: L) := by
  have hmf : ∀ (fn : Fn) (first cap : Array Value) (w : World), (Instr.makeFunc fn first cap).run Tryz.prog w = .ok (.func fn first cap) w := fun _ _ _ _ => rfl
  have H := Lib.hid S
  clear S
  go_enter Tryz.func30, Tryz.ntmps30
  go_wp2_with fail
  go_ret
  exact ⟨_, rfl, H.out.box #[.slice A k c] 25⟩
theorem take_prefix_succ {rs : List Nat} {q x : Nat} (h : rs[q]? = some x) {k : Nat} (hk : q < k) : (rs.take q ++ [x]) <+: rs.take k := by
  have h1 : rs.take q ++ [x] = rs.take (q + 1) := by rw [List.take_add_one, h]; rfl
  rw [h1]
  exact List.take_prefix_take_left (by omega)
set_option maxHeartbeats 2000000 in
theorem roots_iter (B g k cap n cp : Nat) (rs : List Nat) (hk : k ≤ n) (hrs : rs.length = n) (hn : n ≤ 100000) :
    Iter Tryz.prog 60 #[.pointer (some ⟨B, 0, none⟩)] (fun i : Nat => #[.int .i64 (i : Int)]) (rs.take k) (fun _ => [blkR B 25 #[.slice (some ⟨g, 0, none⟩) k cap], rowR 34 1 (.slice (some ⟨g, 0, none⟩) n cp) n (nums rs)]) := by
  intro l w0 Φ Φx W R hY h0 hS
  dsimp only [List.cons_append, List.nil_append] at hY hS
  have HY := Lib.hid hY
  have HS := Lib.hid hS
  have H0 := Lib.hid h0
  have HRS := Lib.hid hrs
  have hb := (hS.blk 0 rfl).cell 0
  simp at hb
  clear hY h0 hS hrs
  refine calls_wide ?_
  gi_enter Tryz.func60, Tryz.ntmps60
  gi_wp2
  clear hb
  gi_loopw [7] (fun i wr => ∃ (q : Nat) (R' : List Res), q ≤ k ∧ i = .int .i64 q ∧ Φ (rs.take q) R' ∧ Sep w0 wr (blkR B 25 #[.slice (some ⟨g, 0, none⟩) k cap] :: rowR 34 1 (.slice (some ⟨g, 0, none⟩) n cp) n (nums rs) :: R')) (fun i _ => k + 1 - (intOf i).toNat)
  case atStart => exact ⟨0, R, by omega, rfl, H0.out, HS.out⟩
  case round =>
    clear H0 HS
    obtain ⟨q, R', hq, rfl, hΦ, hS⟩ := hrel
    by_cases hlt : q < k
    · have hltI : (q : Int) < (k : Int) := by omega
      obtain ⟨x, hx⟩ : ∃ z_, rs[q]? = some z_ := ⟨_, List.getElem?_eq_getElem (by rw [HRS.out]; omega)⟩
      have cx := hS.rowCell 1 rfl q _ (nums_get _ _ _ hx)
      have HT := Lib.hid (show rs.take (q + 1) = rs.take q ++ [x] by rw [List.take_add_one, hx]; rfl)
      obtain ⟨fn, tmps, assign, body, hy, hR⟩ := HY.out (rs.take q) x R' [] wr (take_prefix_succ hx hlt) hΦ (by rw [List.append_nil]; exact hS)
      have HR := Lib.hid hR
      have HX := Lib.hid hx
      clear hR hΦ hS hx
      gi_wp2
      refine HR.out.mono ?_
      simp only [List.append_nil]
      rintro e w2 (⟨rfl, R2, hΦ2, hS2⟩ | ⟨rfl, R2, hΦ2, hS2⟩)
      · have HS2 := Lib.hid hS2
        have HP2 := Lib.hid hΦ2
        clear hS2 hΦ2
        gi_wp2
        go_roundw
        case rel => exact ⟨q + 1, R2, by omega, by go_num, by rw [HT.out]; exact HP2.out, HS2.out⟩
        case measure => simp [intOf]; omega
      · have HS2 := Lib.hid hS2
        have HP2 := Lib.hid hΦ2
        clear hS2 hΦ2
        gi_wp2
        refine bodyPost_ret (results_none rfl _ _ _) rfl ?_
        exact ⟨⟨_, rfl⟩, .inr ⟨rs.take q ++ [x], R2, take_prefix_succ HX.out hlt, HP2.out, HS2.out⟩⟩
    · obtain rfl : k = q := by omega
      have HS := Lib.hid hS
      have HP := Lib.hid hΦ
      clear hS hΦ
      gi_wp2
      go_end0
      exact ⟨⟨_, rfl⟩, .inl ⟨R', HP.out, HS.out⟩⟩
set_option maxHeartbeats 2000000 in
theorem roots_iter0 (B : Nat) (A : Option Addr) (c : Nat) :
    Iter Tryz.prog 60 #[.pointer (some ⟨B, 0, none⟩)] (fun i : Nat => #[.int .i64 (i : Int)]) ([] : List Nat) (fun _ => [blkR B 25 #[.slice A 0 c]]) := by
  intro l w0 Φ Φx W R hY h0 hS
  dsimp only [List.cons_append, List.nil_append] at hY hS
  have HS := Lib.hid hS
  have H0 := Lib.hid h0
  have hb := (hS.blk 0 rfl).cell 0
  simp at hb
  clear hY h0 hS
  refine calls_wide ?_
  gi_enter Tryz.func60, Tryz.ntmps60
  gi_wp2
  clear hb
  gi_loopw [7] (fun i wr => i = .int .i64 0 ∧ Φ [] R ∧ Sep w0 wr (blkR B 25 #[.slice A 0 c] :: R)) (fun i _ => 0)
  case atStart => exact ⟨rfl, H0.out, HS.out⟩
  case round =>
    clear H0 HS
    obtain ⟨rfl, hΦ, hS⟩ := hrel
    have HS := Lib.hid hS
    have HP := Lib.hid hΦ
    clear hS hΦ
    gi_wp2
    go_end0
    exact ⟨⟨_, rfl⟩, .inl ⟨R, HP.out, HS.out⟩⟩
end Go.Proofs.YtbcabjpafeocgaaGreat

/-
  fit of layer 16. Conditions: as the theorem says.
-/
namespace Go.Proofs.YtbcabjpafeocgaaGreat
set_option linter.unusedVariables false
set_option linter.unusedSimpArgs false
open Go.RowKit Go.Shelf

theorem ones16 (w : World) (m : Nat) (cs : List Value) (hc : cs = List.replicate m (.int .u8 1)) : ArgI (w.alloc (.cells cs.toArray 5)) (some ⟨w.heap.size, 0, none⟩) m [.u8] (fun _ _ => 1) := by
  intro i hi
  refine ⟨w.heap.size, 0, rfl, by simp, fun j q hq => ?_⟩
  match j, hq with
  | 0, hq =>
    simp at hq
    subst hq
    refine ⟨?_, show (Lit.int .u8 1).wf = true by decide⟩
    have h := (Blk.new w 5 cs.toArray).cell i
    show (w.alloc (.cells cs.toArray 5)).cell? ⟨w.heap.size, 0 + i * 1 + 0, none⟩ = some (.int .u8 1)
    rw [show 0 + i * 1 + 0 = i by omega, h, hc]
    simp [hi]
theorem argI_none16 (w : World) (qs : List IntKind) : ArgI w none 0 qs (fun _ _ => 0) := fun i hi => absurd hi (by omega)
theorem enters_roots (args : Array Value) (w : World) : (callFunc 60 args).run Tryz.prog w = .ok (.enter 60 args) w := enters_of Tryz.func60 (by kernel_rfl) rfl args w
/-- One of two was shaded, and nothing points anywhere. -/
theorem fit_end {A : AR} {fs : Nat → List Nat} {x y d : Nat} {C' : Col} (hg : Gr A [x, y] fs) (hb : ∀ z, ptsOf fs z = []) (h : Steps (ptsOf fs) d (Col.white.shades [x]) C') (hno : ∀ z, C'.grey z = false) : d = 1 ∧ C'.sc x = true ∧ C'.mz y = false := by
  have h1 := bare_trace hb hg.nodup (K := [x]) (by simp) (by simp) h hno
  have h2 := white_end hg.nodup hg.ptsIn (l := [x]) (by simp) h hno
  have hne : y ≠ x := fun e => by have := hg.nodup; rw [e] at this; simp at this
  refine ⟨h1, ?_, ?_⟩
  · rw [h2.2.1]
    exact (h2.1 x).2 (.base (by simp))
  · cases e : C'.mz y with
    | false => rfl
    | true =>
      have h3 := h.within (P := fun z => z = x) (fun z _ u hu => by rw [hb] at hu; simp at hu) (fun z hz => by rw [white_mz] at hz; simpa using hz) y e
      exact absurd h3 hne
set_option maxRecDepth 100000 in
set_option maxHeartbeats 16000000 in
theorem fit16 (w : World) : Calls Tryz.prog 24 #[] w fun e w' => e = .returned (.bool true) ∧ Chg [] w w' := by
  obtain ⟨W, hW⟩ : ∃ W, w.alloc (.cells #[.int .u8 1, .int .u8 1] 5) = W := ⟨_, rfl⟩
  have hz := ones16 w 2 [.int .u8 1, .int .u8 1] rfl
  simp only [List.toArray] at hz
  have hch := (Chg.refl [] w).alloc (.cells #[.int .u8 1, .int .u8 1] 5)
  rw [hW] at hch
  have hz' : ArgI W (some ⟨w.heap.size, 0, none⟩) 2 [.u8] (fun _ _ => 1) := by rw [← hW]; exact hz
  have HCH := Lib.hid hch
  have HMD := Lib.hid (Made11E (some ⟨w.heap.size, 0, none⟩) 2 2 (fun _ _ => 1) none 0 0 (fun _ _ => 0) hz' (argI_none16 W _) (by omega) (by omega) (Sep.start W))
  have hro : Tryz.prog.follows .mixedOrders = true := by kernel_rfl
  clear hz hz' hch
  go_enter Tryz.func24, Tryz.ntmps24
  go_wp2_with (go_at_call 11; refine (HMD.out).mono ?_; rintro e w3 ⟨a, ab, v, A, rs, fs, rfl, hgr, hlen, hle, hs⟩; obtain ⟨x, y, rfl⟩ : ∃ x y, rs = [x, y] := (by match rs, hlen with | [x, y], _ => exact ⟨x, y, rfl⟩); have HGR := Lib.hid hgr; have HBARE := Lib.hid (show ∀ z, ptsOf fs z = [] from hle.2 rfl); obtain ⟨g, capl, hv, hcl1, hcl2⟩ := hs.rowSome 1 rfl (by simp); rw [hv] at hs ⊢; have HX2 := Lib.hid (hgr.lt (x := x) (by simp)); have HY2 := Lib.hid (hgr.lt (x := y) (by simp)); have hcl3 : 2 ≤ capl := hcl1; have HS3 := Lib.hid hs; clear hs hgr hlen hle hv HMD)
  go_loopw [17] (fun i wr => ∃ (k : Nat), k ≤ 4 ∧ i = .int .i64 (k : Int) ∧ Sep W wr (arenaR a A :: rowR 34 1 (.slice (some ⟨g, 0, none⟩) 2 capl) 2 (nums [x, y]) :: adjR Tryz.prog 34 34 ab (ptsOf fs) :: [])) (fun i _ => 5 - (intOf i).toNat)
  case atStart => exact ⟨0, by omega, rfl, HS3.out⟩
  case round =>
    clear HS3
    obtain ⟨k, hk, rfl, hs⟩ := hrel
    have HS3 := Lib.hid hs
    clear hs
    rcases (show k = 4 ∨ k = 0 ∨ k = 1 ∨ k = 2 ∨ k = 3 by omega) with rfl | rfl | rfl | rfl | rfl
    · go_wp2_with fail
      go_ret
      exact ⟨by first | rfl | simp, HCH.out.trans HS3.out.chg (by simp)⟩
    · have HKN := Lib.hid (KNew HS3.out 0 rfl HGR.out.size (by omega) 2 (by omega))
      clear HS3
      go_wp2_with (first
        | (go_at_call 12; refine (HKN.out).mono ?_; rintro e w4 ⟨m, rfl, hs⟩; have HS4 := Lib.hid hs; clear hs HKN)
        | (go_at_call 26; refine (Made08 _ 0 0 0 0 1 0 (by omega) (by omega) (by omega) (by omega) (by omega) (by omega)).mono ?_; rintro e w5 ⟨vc, rfl, ⟨bl, cp, ct, cr, cs, cg, cf, mk, lg, bu, rfl, hmk1, hmk2, hlg1, hlg2⟩, hC⟩; have HEN := Lib.hid (ENew (HS4.out.same hC) 0 1 rfl rfl HGR.out.size (by omega) (0 % 4) bl cp ct cr cs cg cf mk lg bu (by omega)); clear hC HS4)
        | (go_at_call 27; refine (HEN.out).mono ?_; rintro e w6 ⟨b, rfl, hs⟩; have hs' := (show Sep W w6 (steeleR b m a A.n (fun _ => false) :: markR m a 2049 (Col.white) :: arenaR a A :: rowR 34 1 (.slice (some ⟨g, 0, none⟩) 2 capl) 2 (nums [x, y]) :: adjR Tryz.prog 34 34 ab (ptsOf fs) :: []) from hs); have x0 := hs'.rowCell 3 rfl 0 _ (nums_get [x, y] 0 x rfl); have x1 := hs'.rowCell 3 rfl 1 _ (nums_get [x, y] 1 y rfl); have HSH := Lib.hid (KShade hs' 1 rfl x HX2.out.1 HX2.out.2); clear hs hs' HEN; try simp only [show Eng.new (0 % 4) lg = (.st fun _ => false) from rfl, engV, engT])
        | (go_at_call 40; refine (BRescans _ b).mono ?_; rintro e w7 ⟨rfl, rfl⟩)
        | (go_at_call 13; refine (HSH.out).mono ?_; rintro e w8 ⟨rfl, hs⟩; clear x0 x1; have hs' := (show Sep W w8 (steeleR b m a A.n (fun _ => false) :: markR m a 2049 (Col.white.shades [x]) :: arenaR a A :: rowR 34 1 (.slice (some ⟨g, 0, none⟩) 2 capl) 2 (nums [x, y]) :: adjR Tryz.prog 34 34 ab (ptsOf fs) :: []) from hs); have x0 := hs'.rowCell 3 rfl 0 _ (nums_get [x, y] 0 x rfl); have x1 := hs'.rowCell 3 rfl 1 _ (nums_get [x, y] 1 y rfl); have HRT := Lib.hid (RRoots hs' (some ⟨g, 0, none⟩) 1 capl); clear hs hs' HSH)
        | (go_at_call 30; refine (HRT.out).mono ?_; rintro e w9 ⟨B, rfl, hs⟩; have hs' := (show Sep W w9 (blkR B 25 #[.slice (some ⟨g, 0, none⟩) 1 capl] :: rowR 34 1 (.slice (some ⟨g, 0, none⟩) 2 capl) 2 (nums [x, y]) :: steeleR b m a A.n (fun _ => false) :: markR m a 2049 (Col.white.shades [x]) :: arenaR a A :: adjR Tryz.prog 34 34 ab (ptsOf fs) :: []) from hs.front 5 [0, 4, 1, 2, 3]); have HFI := Lib.hid (EFinish (.st fun _ => false) (roots_iter B g 1 capl 2 capl [x, y] (by omega) rfl (by omega)) enters_roots (by intro z hz; simp at hz; subst hz; exact HX2.out) HGR.out.heap.wf HGR.out.size (by rw [HGR.out.n]; omega) (Eng.idle_ok (show Eng.idle (.st fun _ => false) from Eng.new_idle 0 lg) _) HGR.out.heap HGR.out.nodup HGR.out.ptsIn (by simp) (by intro z hz; rw [Eng.idle_fin (show Eng.idle (.st fun _ => false) from Eng.new_idle 0 lg)] at hz; first | (rw [show Eng.rescans (.st fun _ => false) = true from rfl, if_pos rfl] at hz; rw [shades_mz, white_mz] at hz; simp at hz; simp [hz]) | (rw [if_neg (by decide)] at hz; rw [white_mz] at hz; simp at hz; simp [hz])) hs'); clear hs hs' HRT)
        | (go_at_call 29; refine (HFI.out).mono ?_; rintro e w10 ⟨d, C2, rfl, hst, hno, hs⟩; have hfx : ((.st fun _ => false) : Eng).fin A ([x, y].take 1) (Col.white.shades [x]) = Col.white.shades [x] := (by rw [Eng.idle_fin (show Eng.idle (.st fun _ => false) from Eng.new_idle 0 lg)]; first | (rw [show Eng.rescans (.st fun _ => false) = true from rfl, if_pos rfl]; exact shades_twice _ (by intro z hz; simpa using hz)) | rw [if_neg (by decide)]); rw [hfx] at hst; obtain ⟨rfl, hsc, hmy⟩ := fit_end HGR.out HBARE.out hst hno; clear x0 x1; have hs' := (show Sep W w10 (blkR B 25 #[.slice (some ⟨g, 0, none⟩) 1 capl] :: rowR 34 1 (.slice (some ⟨g, 0, none⟩) 2 capl) 2 (nums [x, y]) :: steeleR b m a A.n (fun _ => false) :: markR m a 2049 (C2) :: arenaR a A :: adjR Tryz.prog 34 34 ab (ptsOf fs) :: []) from (by first | exact hs | (have h1 := hs; rw [Eng.idle_remark (show Eng.idle (.st fun _ => false) from Eng.new_idle 0 lg)] at h1; exact h1))); have x0 := hs'.rowCell 1 rfl 0 _ (nums_get [x, y] 0 x rfl); have x1 := hs'.rowCell 1 rfl 1 _ (nums_get [x, y] 1 y rfl); have hks := KScanned hs' 3 rfl x HX2.out.2; rw [hsc] at hks; have HKS := Lib.hid hks; have HMY := Lib.hid hmy; clear hs hs' hst hno hfx hks hsc hmy HFI)
        | (go_at_call 19; refine (HKS.out).mono ?_; rintro e w11 ⟨rfl, hs⟩; clear x0 x1; have hs' := (show Sep W w11 (blkR B 25 #[.slice (some ⟨g, 0, none⟩) 1 capl] :: rowR 34 1 (.slice (some ⟨g, 0, none⟩) 2 capl) 2 (nums [x, y]) :: steeleR b m a A.n (fun _ => false) :: markR m a 2049 (C2) :: arenaR a A :: adjR Tryz.prog 34 34 ab (ptsOf fs) :: []) from hs); have x0 := hs'.rowCell 1 rfl 0 _ (nums_get [x, y] 0 x rfl); have x1 := hs'.rowCell 1 rfl 1 _ (nums_get [x, y] 1 y rfl); have hkm := KMarked hs' 3 rfl y HY2.out.2; rw [HMY.out] at hkm; have HKM := Lib.hid hkm; clear hs hs' hkm HKS)
        | (go_at_call 18; refine (HKM.out).mono ?_; rintro e w12 ⟨rfl, hs⟩; have HS7 := Lib.hid (show Sep W w12 (blkR B 25 #[.slice (some ⟨g, 0, none⟩) 1 capl] :: rowR 34 1 (.slice (some ⟨g, 0, none⟩) 2 capl) 2 (nums [x, y]) :: steeleR b m a A.n (fun _ => false) :: markR m a 2049 (C2) :: arenaR a A :: adjR Tryz.prog 34 34 ab (ptsOf fs) :: []) from hs); clear hs HKM x0 x1))
      go_roundw
      case rel => exact ⟨0 + 1, by omega, by go_num, (HS7.out.front 5 [0, 2, 3, 4, 1]).tail.tail.tail⟩
      case measure => simp [intOf]
    · have HKN := Lib.hid (KNew HS3.out 0 rfl HGR.out.size (by omega) 2 (by omega))
      clear HS3
      go_wp2_with (first
        | (go_at_call 12; refine (HKN.out).mono ?_; rintro e w4 ⟨m, rfl, hs⟩; have HS4 := Lib.hid hs; clear hs HKN)
        | (go_at_call 26; refine (Made08 _ 1 0 0 0 1 0 (by omega) (by omega) (by omega) (by omega) (by omega) (by omega)).mono ?_; rintro e w5 ⟨vc, rfl, ⟨bl, cp, ct, cr, cs, cg, cf, mk, lg, bu, rfl, hmk1, hmk2, hlg1, hlg2⟩, hC⟩; have HEN := Lib.hid (ENew (HS4.out.same hC) 0 1 rfl rfl HGR.out.size (by omega) (1 % 4) bl cp ct cr cs cg cf mk lg bu (by omega)); clear hC HS4)
        | (go_at_call 27; refine (HEN.out).mono ?_; rintro e w6 ⟨b, rfl, hs⟩; have hs' := (show Sep W w6 (dijR b m :: markR m a 2049 (Col.white) :: arenaR a A :: rowR 34 1 (.slice (some ⟨g, 0, none⟩) 2 capl) 2 (nums [x, y]) :: adjR Tryz.prog 34 34 ab (ptsOf fs) :: []) from hs); have x0 := hs'.rowCell 3 rfl 0 _ (nums_get [x, y] 0 x rfl); have x1 := hs'.rowCell 3 rfl 1 _ (nums_get [x, y] 1 y rfl); have HSH := Lib.hid (KShade hs' 1 rfl x HX2.out.1 HX2.out.2); clear hs hs' HEN; try simp only [show Eng.new (1 % 4) lg = .dj from rfl, engV, engT])
        | (go_at_call 153; refine (DRescans _ b).mono ?_; rintro e w7 ⟨rfl, rfl⟩)
        | (go_at_call 13; refine (HSH.out).mono ?_; rintro e w8 ⟨rfl, hs⟩; clear x0 x1; have hs' := (show Sep W w8 (dijR b m :: markR m a 2049 (Col.white.shades [x]) :: arenaR a A :: rowR 34 1 (.slice (some ⟨g, 0, none⟩) 2 capl) 2 (nums [x, y]) :: adjR Tryz.prog 34 34 ab (ptsOf fs) :: []) from hs); have x0 := hs'.rowCell 3 rfl 0 _ (nums_get [x, y] 0 x rfl); have x1 := hs'.rowCell 3 rfl 1 _ (nums_get [x, y] 1 y rfl); have HRT := Lib.hid (RRoots hs' (some ⟨g, 0, none⟩) 1 capl); clear hs hs' HSH)
        | (go_at_call 30; refine (HRT.out).mono ?_; rintro e w9 ⟨B, rfl, hs⟩; have hs' := (show Sep W w9 (blkR B 25 #[.slice (some ⟨g, 0, none⟩) 1 capl] :: rowR 34 1 (.slice (some ⟨g, 0, none⟩) 2 capl) 2 (nums [x, y]) :: dijR b m :: markR m a 2049 (Col.white.shades [x]) :: arenaR a A :: adjR Tryz.prog 34 34 ab (ptsOf fs) :: []) from hs.front 5 [0, 4, 1, 2, 3]); have HFI := Lib.hid (EFinish .dj (roots_iter B g 1 capl 2 capl [x, y] (by omega) rfl (by omega)) enters_roots (by intro z hz; simp at hz; subst hz; exact HX2.out) HGR.out.heap.wf HGR.out.size (by rw [HGR.out.n]; omega) (Eng.idle_ok (show Eng.idle .dj from Eng.new_idle 1 lg) _) HGR.out.heap HGR.out.nodup HGR.out.ptsIn (by simp) (by intro z hz; rw [Eng.idle_fin (show Eng.idle .dj from Eng.new_idle 1 lg)] at hz; first | (rw [show Eng.rescans .dj = true from rfl, if_pos rfl] at hz; rw [shades_mz, white_mz] at hz; simp at hz; simp [hz]) | (rw [if_neg (by decide)] at hz; rw [white_mz] at hz; simp at hz; simp [hz])) hs'); clear hs hs' HRT)
        | (go_at_call 29; refine (HFI.out).mono ?_; rintro e w10 ⟨d, C2, rfl, hst, hno, hs⟩; have hfx : (.dj : Eng).fin A ([x, y].take 1) (Col.white.shades [x]) = Col.white.shades [x] := (by rw [Eng.idle_fin (show Eng.idle .dj from Eng.new_idle 1 lg)]; first | (rw [show Eng.rescans .dj = true from rfl, if_pos rfl]; exact shades_twice _ (by intro z hz; simpa using hz)) | rw [if_neg (by decide)]); rw [hfx] at hst; obtain ⟨rfl, hsc, hmy⟩ := fit_end HGR.out HBARE.out hst hno; clear x0 x1; have hs' := (show Sep W w10 (blkR B 25 #[.slice (some ⟨g, 0, none⟩) 1 capl] :: rowR 34 1 (.slice (some ⟨g, 0, none⟩) 2 capl) 2 (nums [x, y]) :: dijR b m :: markR m a 2049 (C2) :: arenaR a A :: adjR Tryz.prog 34 34 ab (ptsOf fs) :: []) from (by first | exact hs | (have h1 := hs; rw [Eng.idle_remark (show Eng.idle .dj from Eng.new_idle 1 lg)] at h1; exact h1))); have x0 := hs'.rowCell 1 rfl 0 _ (nums_get [x, y] 0 x rfl); have x1 := hs'.rowCell 1 rfl 1 _ (nums_get [x, y] 1 y rfl); have hks := KScanned hs' 3 rfl x HX2.out.2; rw [hsc] at hks; have HKS := Lib.hid hks; have HMY := Lib.hid hmy; clear hs hs' hst hno hfx hks hsc hmy HFI)
        | (go_at_call 19; refine (HKS.out).mono ?_; rintro e w11 ⟨rfl, hs⟩; clear x0 x1; have hs' := (show Sep W w11 (blkR B 25 #[.slice (some ⟨g, 0, none⟩) 1 capl] :: rowR 34 1 (.slice (some ⟨g, 0, none⟩) 2 capl) 2 (nums [x, y]) :: dijR b m :: markR m a 2049 (C2) :: arenaR a A :: adjR Tryz.prog 34 34 ab (ptsOf fs) :: []) from hs); have x0 := hs'.rowCell 1 rfl 0 _ (nums_get [x, y] 0 x rfl); have x1 := hs'.rowCell 1 rfl 1 _ (nums_get [x, y] 1 y rfl); have hkm := KMarked hs' 3 rfl y HY2.out.2; rw [HMY.out] at hkm; have HKM := Lib.hid hkm; clear hs hs' hkm HKS)
        | (go_at_call 18; refine (HKM.out).mono ?_; rintro e w12 ⟨rfl, hs⟩; have HS7 := Lib.hid (show Sep W w12 (blkR B 25 #[.slice (some ⟨g, 0, none⟩) 1 capl] :: rowR 34 1 (.slice (some ⟨g, 0, none⟩) 2 capl) 2 (nums [x, y]) :: dijR b m :: markR m a 2049 (C2) :: arenaR a A :: adjR Tryz.prog 34 34 ab (ptsOf fs) :: []) from hs); clear hs HKM x0 x1))
      go_roundw
      case rel => exact ⟨1 + 1, by omega, by go_num, (HS7.out.front 5 [0, 2, 3, 4, 1]).tail.tail.tail⟩
      case measure => simp [intOf]
    · have HKN := Lib.hid (KNew HS3.out 0 rfl HGR.out.size (by omega) 2 (by omega))
      clear HS3
      go_wp2_with (first
        | (go_at_call 12; refine (HKN.out).mono ?_; rintro e w4 ⟨m, rfl, hs⟩; have HS4 := Lib.hid hs; clear hs HKN)
        | (go_at_call 26; refine (Made08 _ 2 0 0 0 1 0 (by omega) (by omega) (by omega) (by omega) (by omega) (by omega)).mono ?_; rintro e w5 ⟨vc, rfl, ⟨bl, cp, ct, cr, cs, cg, cf, mk, lg, bu, rfl, hmk1, hmk2, hlg1, hlg2⟩, hC⟩; have HEN := Lib.hid (ENew (HS4.out.same hC) 0 1 rfl rfl HGR.out.size (by omega) (2 % 4) bl cp ct cr cs cg cf mk lg bu (by omega)); clear hC HS4)
        | (go_at_call 27; refine (HEN.out).mono ?_; rintro e w6 ⟨b, rfl, hs⟩; have hs' := (show Sep W w6 (yuaR b m :: markR m a 2049 (Col.white) :: arenaR a A :: rowR 34 1 (.slice (some ⟨g, 0, none⟩) 2 capl) 2 (nums [x, y]) :: adjR Tryz.prog 34 34 ab (ptsOf fs) :: []) from hs); have x0 := hs'.rowCell 3 rfl 0 _ (nums_get [x, y] 0 x rfl); have x1 := hs'.rowCell 3 rfl 1 _ (nums_get [x, y] 1 y rfl); have HSH := Lib.hid (KShade hs' 1 rfl x HX2.out.1 HX2.out.2); clear hs hs' HEN; try simp only [show Eng.new (2 % 4) lg = .yu from rfl, engV, engT])
        | (go_at_call 158; refine (YRescans _ b).mono ?_; rintro e w7 ⟨rfl, rfl⟩)
        | (go_at_call 13; refine (HSH.out).mono ?_; rintro e w8 ⟨rfl, hs⟩; clear x0 x1; have hs' := (show Sep W w8 (yuaR b m :: markR m a 2049 (Col.white.shades [x]) :: arenaR a A :: rowR 34 1 (.slice (some ⟨g, 0, none⟩) 2 capl) 2 (nums [x, y]) :: adjR Tryz.prog 34 34 ab (ptsOf fs) :: []) from hs); have x0 := hs'.rowCell 3 rfl 0 _ (nums_get [x, y] 0 x rfl); have x1 := hs'.rowCell 3 rfl 1 _ (nums_get [x, y] 1 y rfl); have HRT := Lib.hid (RRoots hs' (some ⟨g, 0, none⟩) 1 capl); clear hs hs' HSH)
        | (go_at_call 30; refine (HRT.out).mono ?_; rintro e w9 ⟨B, rfl, hs⟩; have hs' := (show Sep W w9 (blkR B 25 #[.slice (some ⟨g, 0, none⟩) 1 capl] :: rowR 34 1 (.slice (some ⟨g, 0, none⟩) 2 capl) 2 (nums [x, y]) :: yuaR b m :: markR m a 2049 (Col.white.shades [x]) :: arenaR a A :: adjR Tryz.prog 34 34 ab (ptsOf fs) :: []) from hs.front 5 [0, 4, 1, 2, 3]); have HFI := Lib.hid (EFinish .yu (roots_iter B g 1 capl 2 capl [x, y] (by omega) rfl (by omega)) enters_roots (by intro z hz; simp at hz; subst hz; exact HX2.out) HGR.out.heap.wf HGR.out.size (by rw [HGR.out.n]; omega) (Eng.idle_ok (show Eng.idle .yu from Eng.new_idle 2 lg) _) HGR.out.heap HGR.out.nodup HGR.out.ptsIn (by simp) (by intro z hz; rw [Eng.idle_fin (show Eng.idle .yu from Eng.new_idle 2 lg)] at hz; first | (rw [show Eng.rescans .yu = true from rfl, if_pos rfl] at hz; rw [shades_mz, white_mz] at hz; simp at hz; simp [hz]) | (rw [if_neg (by decide)] at hz; rw [white_mz] at hz; simp at hz; simp [hz])) hs'); clear hs hs' HRT)
        | (go_at_call 29; refine (HFI.out).mono ?_; rintro e w10 ⟨d, C2, rfl, hst, hno, hs⟩; have hfx : (.yu : Eng).fin A ([x, y].take 1) (Col.white.shades [x]) = Col.white.shades [x] := (by rw [Eng.idle_fin (show Eng.idle .yu from Eng.new_idle 2 lg)]; first | (rw [show Eng.rescans .yu = true from rfl, if_pos rfl]; exact shades_twice _ (by intro z hz; simpa using hz)) | rw [if_neg (by decide)]); rw [hfx] at hst; obtain ⟨rfl, hsc, hmy⟩ := fit_end HGR.out HBARE.out hst hno; clear x0 x1; have hs' := (show Sep W w10 (blkR B 25 #[.slice (some ⟨g, 0, none⟩) 1 capl] :: rowR 34 1 (.slice (some ⟨g, 0, none⟩) 2 capl) 2 (nums [x, y]) :: yuaR b m :: markR m a 2049 (C2) :: arenaR a A :: adjR Tryz.prog 34 34 ab (ptsOf fs) :: []) from (by first | exact hs | (have h1 := hs; rw [Eng.idle_remark (show Eng.idle .yu from Eng.new_idle 2 lg)] at h1; exact h1))); have x0 := hs'.rowCell 1 rfl 0 _ (nums_get [x, y] 0 x rfl); have x1 := hs'.rowCell 1 rfl 1 _ (nums_get [x, y] 1 y rfl); have hks := KScanned hs' 3 rfl x HX2.out.2; rw [hsc] at hks; have HKS := Lib.hid hks; have HMY := Lib.hid hmy; clear hs hs' hst hno hfx hks hsc hmy HFI)
        | (go_at_call 19; refine (HKS.out).mono ?_; rintro e w11 ⟨rfl, hs⟩; clear x0 x1; have hs' := (show Sep W w11 (blkR B 25 #[.slice (some ⟨g, 0, none⟩) 1 capl] :: rowR 34 1 (.slice (some ⟨g, 0, none⟩) 2 capl) 2 (nums [x, y]) :: yuaR b m :: markR m a 2049 (C2) :: arenaR a A :: adjR Tryz.prog 34 34 ab (ptsOf fs) :: []) from hs); have x0 := hs'.rowCell 1 rfl 0 _ (nums_get [x, y] 0 x rfl); have x1 := hs'.rowCell 1 rfl 1 _ (nums_get [x, y] 1 y rfl); have hkm := KMarked hs' 3 rfl y HY2.out.2; rw [HMY.out] at hkm; have HKM := Lib.hid hkm; clear hs hs' hkm HKS)
        | (go_at_call 18; refine (HKM.out).mono ?_; rintro e w12 ⟨rfl, hs⟩; have HS7 := Lib.hid (show Sep W w12 (blkR B 25 #[.slice (some ⟨g, 0, none⟩) 1 capl] :: rowR 34 1 (.slice (some ⟨g, 0, none⟩) 2 capl) 2 (nums [x, y]) :: yuaR b m :: markR m a 2049 (C2) :: arenaR a A :: adjR Tryz.prog 34 34 ab (ptsOf fs) :: []) from hs); clear hs HKM x0 x1))
      go_roundw
      case rel => exact ⟨2 + 1, by omega, by go_num, (HS7.out.front 5 [0, 2, 3, 4, 1]).tail.tail.tail⟩
      case measure => simp [intOf]
    · have HKN := Lib.hid (KNew HS3.out 0 rfl HGR.out.size (by omega) 2 (by omega))
      clear HS3
      go_wp2_with (first
        | (go_at_call 12; refine (HKN.out).mono ?_; rintro e w4 ⟨m, rfl, hs⟩; have HS4 := Lib.hid hs; clear hs HKN)
        | (go_at_call 26; refine (Made08 _ 3 0 0 0 1 0 (by omega) (by omega) (by omega) (by omega) (by omega) (by omega)).mono ?_; rintro e w5 ⟨vc, rfl, ⟨bl, cp, ct, cr, cs, cg, cf, mk, lg, bu, rfl, hmk1, hmk2, hlg1, hlg2⟩, hC⟩; have HEN := Lib.hid (ENew (HS4.out.same hC) 0 1 rfl rfl HGR.out.size (by omega) (3 % 4) bl cp ct cr cs cg cf mk lg bu (by omega)); clear hC HS4)
        | (go_at_call 27; refine (HEN.out).mono ?_; rintro e w6 ⟨b, rfl, hs⟩; have hs' := (show Sep W w6 (vybR b m 2049 (Vy.new lg) :: markR m a 2049 (Col.white) :: arenaR a A :: rowR 34 1 (.slice (some ⟨g, 0, none⟩) 2 capl) 2 (nums [x, y]) :: adjR Tryz.prog 34 34 ab (ptsOf fs) :: []) from hs); have x0 := hs'.rowCell 3 rfl 0 _ (nums_get [x, y] 0 x rfl); have x1 := hs'.rowCell 3 rfl 1 _ (nums_get [x, y] 1 y rfl); have HSH := Lib.hid (KShade hs' 1 rfl x HX2.out.1 HX2.out.2); clear hs hs' HEN; try simp only [show Eng.new (3 % 4) lg = (.vy (Vy.new lg)) from rfl, engV, engT])
        | (go_at_call 163; refine (VRescans _ b).mono ?_; rintro e w7 ⟨rfl, rfl⟩)
        | (go_at_call 13; refine (HSH.out).mono ?_; rintro e w8 ⟨rfl, hs⟩; clear x0 x1; have hs' := (show Sep W w8 (vybR b m 2049 (Vy.new lg) :: markR m a 2049 (Col.white.shades [x]) :: arenaR a A :: rowR 34 1 (.slice (some ⟨g, 0, none⟩) 2 capl) 2 (nums [x, y]) :: adjR Tryz.prog 34 34 ab (ptsOf fs) :: []) from hs); have x0 := hs'.rowCell 3 rfl 0 _ (nums_get [x, y] 0 x rfl); have x1 := hs'.rowCell 3 rfl 1 _ (nums_get [x, y] 1 y rfl); have HRT := Lib.hid (RRoots hs' (some ⟨g, 0, none⟩) 1 capl); clear hs hs' HSH)
        | (go_at_call 30; refine (HRT.out).mono ?_; rintro e w9 ⟨B, rfl, hs⟩; have hs' := (show Sep W w9 (blkR B 25 #[.slice (some ⟨g, 0, none⟩) 1 capl] :: rowR 34 1 (.slice (some ⟨g, 0, none⟩) 2 capl) 2 (nums [x, y]) :: vybR b m 2049 (Vy.new lg) :: markR m a 2049 (Col.white.shades [x]) :: arenaR a A :: adjR Tryz.prog 34 34 ab (ptsOf fs) :: []) from hs.front 5 [0, 4, 1, 2, 3]); have HFI := Lib.hid (EFinish (.vy (Vy.new lg)) (roots_iter B g 1 capl 2 capl [x, y] (by omega) rfl (by omega)) enters_roots (by intro z hz; simp at hz; subst hz; exact HX2.out) HGR.out.heap.wf HGR.out.size (by rw [HGR.out.n]; omega) (Eng.idle_ok (show Eng.idle (.vy (Vy.new lg)) from Eng.new_idle 3 lg) _) HGR.out.heap HGR.out.nodup HGR.out.ptsIn (by simp) (by intro z hz; rw [Eng.idle_fin (show Eng.idle (.vy (Vy.new lg)) from Eng.new_idle 3 lg)] at hz; first | (rw [show Eng.rescans (.vy (Vy.new lg)) = true from rfl, if_pos rfl] at hz; rw [shades_mz, white_mz] at hz; simp at hz; simp [hz]) | (rw [if_neg (by decide)] at hz; rw [white_mz] at hz; simp at hz; simp [hz])) hs'); clear hs hs' HRT)
        | (go_at_call 29; refine (HFI.out).mono ?_; rintro e w10 ⟨d, C2, rfl, hst, hno, hs⟩; have hfx : ((.vy (Vy.new lg)) : Eng).fin A ([x, y].take 1) (Col.white.shades [x]) = Col.white.shades [x] := (by rw [Eng.idle_fin (show Eng.idle (.vy (Vy.new lg)) from Eng.new_idle 3 lg)]; first | (rw [show Eng.rescans (.vy (Vy.new lg)) = true from rfl, if_pos rfl]; exact shades_twice _ (by intro z hz; simpa using hz)) | rw [if_neg (by decide)]); rw [hfx] at hst; obtain ⟨rfl, hsc, hmy⟩ := fit_end HGR.out HBARE.out hst hno; clear x0 x1; have hs' := (show Sep W w10 (blkR B 25 #[.slice (some ⟨g, 0, none⟩) 1 capl] :: rowR 34 1 (.slice (some ⟨g, 0, none⟩) 2 capl) 2 (nums [x, y]) :: vybR b m 2049 (Vy.new lg) :: markR m a 2049 (C2) :: arenaR a A :: adjR Tryz.prog 34 34 ab (ptsOf fs) :: []) from (by first | exact hs | (have h1 := hs; rw [Eng.idle_remark (show Eng.idle (.vy (Vy.new lg)) from Eng.new_idle 3 lg)] at h1; exact h1))); have x0 := hs'.rowCell 1 rfl 0 _ (nums_get [x, y] 0 x rfl); have x1 := hs'.rowCell 1 rfl 1 _ (nums_get [x, y] 1 y rfl); have hks := KScanned hs' 3 rfl x HX2.out.2; rw [hsc] at hks; have HKS := Lib.hid hks; have HMY := Lib.hid hmy; clear hs hs' hst hno hfx hks hsc hmy HFI)
        | (go_at_call 19; refine (HKS.out).mono ?_; rintro e w11 ⟨rfl, hs⟩; clear x0 x1; have hs' := (show Sep W w11 (blkR B 25 #[.slice (some ⟨g, 0, none⟩) 1 capl] :: rowR 34 1 (.slice (some ⟨g, 0, none⟩) 2 capl) 2 (nums [x, y]) :: vybR b m 2049 (Vy.new lg) :: markR m a 2049 (C2) :: arenaR a A :: adjR Tryz.prog 34 34 ab (ptsOf fs) :: []) from hs); have x0 := hs'.rowCell 1 rfl 0 _ (nums_get [x, y] 0 x rfl); have x1 := hs'.rowCell 1 rfl 1 _ (nums_get [x, y] 1 y rfl); have hkm := KMarked hs' 3 rfl y HY2.out.2; rw [HMY.out] at hkm; have HKM := Lib.hid hkm; clear hs hs' hkm HKS)
        | (go_at_call 18; refine (HKM.out).mono ?_; rintro e w12 ⟨rfl, hs⟩; have HS7 := Lib.hid (show Sep W w12 (blkR B 25 #[.slice (some ⟨g, 0, none⟩) 1 capl] :: rowR 34 1 (.slice (some ⟨g, 0, none⟩) 2 capl) 2 (nums [x, y]) :: vybR b m 2049 (Vy.new lg) :: markR m a 2049 (C2) :: arenaR a A :: adjR Tryz.prog 34 34 ab (ptsOf fs) :: []) from hs); clear hs HKM x0 x1))
      go_roundw
      case rel => exact ⟨3 + 1, by omega, by go_num, (HS7.out.front 5 [0, 2, 3, 4, 1]).tail.tail.tail⟩
      case measure => simp [intOf]
end Go.Proofs.YtbcabjpafeocgaaGreat

/-
  What is asked of a barrier through its interface (layer 16). Conditions: as the theorem says.
-/
namespace Go.Proofs.YtbcabjpafeocgaaGreat
set_option linter.unusedVariables false
set_option linter.unusedSimpArgs false
open Go.RowKit Go.Shelf

def Eng.preF : Eng → Nat
  | .st _ => 147
  | .dj => 151
  | .yu => 156
  | .vy _ => 161
def Eng.postF : Eng → Nat
  | .st _ => 17
  | .dj => 150
  | .yu => 155
  | .vy _ => 160
def Eng.remarkF : Eng → Nat
  | .st _ => 15
  | .dj => 152
  | .yu => 157
  | .vy _ => 162
def Eng.resetF : Eng → Nat
  | .st _ => 148
  | .dj => 154
  | .yu => 159
  | .vy _ => 164
def Eng.rescansF : Eng → Nat
  | .st _ => 40
  | .dj => 153
  | .yu => 158
  | .vy _ => 163
theorem exec_invoke {P : Program} {o : Oper} {a : Act} {w : World} {recv : Operand} {name : String} {args : Array Operand} {tys : Array TypeId} (hop : o.op = .call { callee := .invoke recv name, args := args, argTypes := tys }) {t : TypeId} {v : Value} (hr : a.eval recv = .iface t v) {f : FuncId}
    (hm : (Go.method (P.types.size + Made.depth) t v name).run P w = .ok (f, v) w) (hf : ∀ args w, (callFunc f args).run P w = .ok (.enter f args) w) : (execOp a.eval o).run P w = .ok (.enter f (#[v] ++ args.map a.eval)) w := by
  generalize a.eval = ρ at hr ⊢
  have h0 : (#[Value.iface t v] ++ Array.map ρ args)[0]? = some (.iface t v) := by rw [Array.getElem?_append_left (by simp)]; rfl
  have h2 : (Array.map ρ args).extract 0 args.size = Array.map ρ args := by
    apply Array.ext'
    simp
    exact List.take_of_length_le (by simp)
  have hm2 : (Go.method (P.types.size + 100) t v name).run P w = .ok (f, v) w := hm
  simp [execOp, hop, resolve, invoke, callMethod, hr, h0, h2, hm2, hf, Result.andThen, go_sem]
theorem exec_Pre {o : Oper} {a : Act} {w : World} {b : Nat} {E : Eng} (recv : Operand) (x0 x1 : Operand) (tys : Array TypeId) (hop : o.op = .call { callee := .invoke recv "Pre", args := #[x0, x1], argTypes := tys }) (hr : a.eval recv = engV b E) {v0 v1 : Value} (hx0 : a.eval x0 = v0) (hx1 : a.eval x1 = v1) : (execOp a.eval o).run Tryz.prog w = .ok (.enter E.preF #[.pointer (some ⟨b, 0, none⟩), v0, v1]) w := by
  have key : ∀ (t : TypeId) (f : FuncId), a.eval recv = .iface t (.pointer (some ⟨b, 0, none⟩)) → (Go.method (Tryz.prog.types.size + Made.depth) t (.pointer (some ⟨b, 0, none⟩)) "Pre").run Tryz.prog w = .ok (f, .pointer (some ⟨b, 0, none⟩)) w → (∀ args w, (callFunc f args).run Tryz.prog w = .ok (.enter f args) w) → (execOp a.eval o).run Tryz.prog w = .ok (.enter f #[.pointer (some ⟨b, 0, none⟩), v0, v1]) w := by
    intro t f h1 h2 h3
    have h4 := exec_invoke hop h1 h2 h3
    rw [h4]
    simp [hx0, hx1]
  cases E with
  | st _ => exact key _ _ hr (by kernel_rfl) (enters_of Tryz.func147 (by kernel_rfl) rfl)
  | dj => exact key _ _ hr (by kernel_rfl) (enters_of Tryz.func151 (by kernel_rfl) rfl)
  | yu => exact key _ _ hr (by kernel_rfl) (enters_of Tryz.func156 (by kernel_rfl) rfl)
  | vy _ => exact key _ _ hr (by kernel_rfl) (enters_of Tryz.func161 (by kernel_rfl) rfl)
theorem wpList_Pre {ops : Array Oper} {rest : List Oper} {o : Oper} {a : Act} {w : World} {Q : Exit → Act → World → Prop} {b : Nat} {E : Eng} {v : Value} {R : World → Prop} (hg : o.guard = none) (recv : Operand) (x0 x1 : Operand) (tys : Array TypeId) (hop : o.op = .call { callee := .invoke recv "Pre", args := #[x0, x1], argTypes := tys }) (hr : a.eval recv = engV b E) {v0 v1 : Value} (hx0 : a.eval x0 = v0) (hx1 : a.eval x1 = v1)
    (hc : Calls Tryz.prog E.preF #[.pointer (some ⟨b, 0, none⟩), v0, v1] w fun e w' => e = .returned v ∧ R w') (hK : ∀ w', R w' → wpList Tryz.prog ops Q rest (a.put o.dst v) w') : wpList Tryz.prog ops Q (o :: rest) a w := by
  refine wpList_plain hg fun K' hK' => ?_
  exact wp_call_of (exec_Pre recv x0 x1 tys hop hr hx0 hx1) hc (fun w' h => hK' _ _ (hK w' h))
theorem exec_Post {o : Oper} {a : Act} {w : World} {b : Nat} {E : Eng} (recv : Operand) (x0 : Operand) (tys : Array TypeId) (hop : o.op = .call { callee := .invoke recv "Post", args := #[x0], argTypes := tys }) (hr : a.eval recv = engV b E) {v0 : Value} (hx0 : a.eval x0 = v0) : (execOp a.eval o).run Tryz.prog w = .ok (.enter E.postF #[.pointer (some ⟨b, 0, none⟩), v0]) w := by
  have key : ∀ (t : TypeId) (f : FuncId), a.eval recv = .iface t (.pointer (some ⟨b, 0, none⟩)) → (Go.method (Tryz.prog.types.size + Made.depth) t (.pointer (some ⟨b, 0, none⟩)) "Post").run Tryz.prog w = .ok (f, .pointer (some ⟨b, 0, none⟩)) w → (∀ args w, (callFunc f args).run Tryz.prog w = .ok (.enter f args) w) → (execOp a.eval o).run Tryz.prog w = .ok (.enter f #[.pointer (some ⟨b, 0, none⟩), v0]) w := by
    intro t f h1 h2 h3
    have h4 := exec_invoke hop h1 h2 h3
    rw [h4]
    simp [hx0]
  cases E with
  | st _ => exact key _ _ hr (by kernel_rfl) (enters_of Tryz.func17 (by kernel_rfl) rfl)
  | dj => exact key _ _ hr (by kernel_rfl) (enters_of Tryz.func150 (by kernel_rfl) rfl)
  | yu => exact key _ _ hr (by kernel_rfl) (enters_of Tryz.func155 (by kernel_rfl) rfl)
  | vy _ => exact key _ _ hr (by kernel_rfl) (enters_of Tryz.func160 (by kernel_rfl) rfl)
theorem wpList_Post {ops : Array Oper} {rest : List Oper} {o : Oper} {a : Act} {w : World} {Q : Exit → Act → World → Prop} {b : Nat} {E : Eng} {v : Value} {R : World → Prop} (hg : o.guard = none) (recv : Operand) (x0 : Operand) (tys : Array TypeId) (hop : o.op = .call { callee := .invoke recv "Post", args := #[x0], argTypes := tys }) (hr : a.eval recv = engV b E) {v0 : Value} (hx0 : a.eval x0 = v0)
    (hc : Calls Tryz.prog E.postF #[.pointer (some ⟨b, 0, none⟩), v0] w fun e w' => e = .returned v ∧ R w') (hK : ∀ w', R w' → wpList Tryz.prog ops Q rest (a.put o.dst v) w') : wpList Tryz.prog ops Q (o :: rest) a w := by
  refine wpList_plain hg fun K' hK' => ?_
  exact wp_call_of (exec_Post recv x0 tys hop hr hx0) hc (fun w' h => hK' _ _ (hK w' h))
theorem exec_Remark {o : Oper} {a : Act} {w : World} {b : Nat} {E : Eng} (recv : Operand) (tys : Array TypeId) (hop : o.op = .call { callee := .invoke recv "Remark", args := #[], argTypes := tys }) (hr : a.eval recv = engV b E) : (execOp a.eval o).run Tryz.prog w = .ok (.enter E.remarkF #[.pointer (some ⟨b, 0, none⟩)]) w := by
  have key : ∀ (t : TypeId) (f : FuncId), a.eval recv = .iface t (.pointer (some ⟨b, 0, none⟩)) → (Go.method (Tryz.prog.types.size + Made.depth) t (.pointer (some ⟨b, 0, none⟩)) "Remark").run Tryz.prog w = .ok (f, .pointer (some ⟨b, 0, none⟩)) w → (∀ args w, (callFunc f args).run Tryz.prog w = .ok (.enter f args) w) → (execOp a.eval o).run Tryz.prog w = .ok (.enter f #[.pointer (some ⟨b, 0, none⟩)]) w := by
    intro t f h1 h2 h3
    have h4 := exec_invoke hop h1 h2 h3
    rw [h4]
    simp []
  cases E with
  | st _ => exact key _ _ hr (by kernel_rfl) (enters_of Tryz.func15 (by kernel_rfl) rfl)
  | dj => exact key _ _ hr (by kernel_rfl) (enters_of Tryz.func152 (by kernel_rfl) rfl)
  | yu => exact key _ _ hr (by kernel_rfl) (enters_of Tryz.func157 (by kernel_rfl) rfl)
  | vy _ => exact key _ _ hr (by kernel_rfl) (enters_of Tryz.func162 (by kernel_rfl) rfl)
theorem wpList_Remark {ops : Array Oper} {rest : List Oper} {o : Oper} {a : Act} {w : World} {Q : Exit → Act → World → Prop} {b : Nat} {E : Eng} {v : Value} {R : World → Prop} (hg : o.guard = none) (recv : Operand) (tys : Array TypeId) (hop : o.op = .call { callee := .invoke recv "Remark", args := #[], argTypes := tys }) (hr : a.eval recv = engV b E)
    (hc : Calls Tryz.prog E.remarkF #[.pointer (some ⟨b, 0, none⟩)] w fun e w' => e = .returned v ∧ R w') (hK : ∀ w', R w' → wpList Tryz.prog ops Q rest (a.put o.dst v) w') : wpList Tryz.prog ops Q (o :: rest) a w := by
  refine wpList_plain hg fun K' hK' => ?_
  exact wp_call_of (exec_Remark recv  tys hop hr ) hc (fun w' h => hK' _ _ (hK w' h))
theorem exec_Reset {o : Oper} {a : Act} {w : World} {b : Nat} {E : Eng} (recv : Operand) (tys : Array TypeId) (hop : o.op = .call { callee := .invoke recv "Reset", args := #[], argTypes := tys }) (hr : a.eval recv = engV b E) : (execOp a.eval o).run Tryz.prog w = .ok (.enter E.resetF #[.pointer (some ⟨b, 0, none⟩)]) w := by
  have key : ∀ (t : TypeId) (f : FuncId), a.eval recv = .iface t (.pointer (some ⟨b, 0, none⟩)) → (Go.method (Tryz.prog.types.size + Made.depth) t (.pointer (some ⟨b, 0, none⟩)) "Reset").run Tryz.prog w = .ok (f, .pointer (some ⟨b, 0, none⟩)) w → (∀ args w, (callFunc f args).run Tryz.prog w = .ok (.enter f args) w) → (execOp a.eval o).run Tryz.prog w = .ok (.enter f #[.pointer (some ⟨b, 0, none⟩)]) w := by
    intro t f h1 h2 h3
    have h4 := exec_invoke hop h1 h2 h3
    rw [h4]
    simp []
  cases E with
  | st _ => exact key _ _ hr (by kernel_rfl) (enters_of Tryz.func148 (by kernel_rfl) rfl)
  | dj => exact key _ _ hr (by kernel_rfl) (enters_of Tryz.func154 (by kernel_rfl) rfl)
  | yu => exact key _ _ hr (by kernel_rfl) (enters_of Tryz.func159 (by kernel_rfl) rfl)
  | vy _ => exact key _ _ hr (by kernel_rfl) (enters_of Tryz.func164 (by kernel_rfl) rfl)
theorem wpList_Reset {ops : Array Oper} {rest : List Oper} {o : Oper} {a : Act} {w : World} {Q : Exit → Act → World → Prop} {b : Nat} {E : Eng} {v : Value} {R : World → Prop} (hg : o.guard = none) (recv : Operand) (tys : Array TypeId) (hop : o.op = .call { callee := .invoke recv "Reset", args := #[], argTypes := tys }) (hr : a.eval recv = engV b E)
    (hc : Calls Tryz.prog E.resetF #[.pointer (some ⟨b, 0, none⟩)] w fun e w' => e = .returned v ∧ R w') (hK : ∀ w', R w' → wpList Tryz.prog ops Q rest (a.put o.dst v) w') : wpList Tryz.prog ops Q (o :: rest) a w := by
  refine wpList_plain hg fun K' hK' => ?_
  exact wp_call_of (exec_Reset recv  tys hop hr ) hc (fun w' h => hK' _ _ (hK w' h))
theorem exec_Rescans {o : Oper} {a : Act} {w : World} {b : Nat} {E : Eng} (recv : Operand) (tys : Array TypeId) (hop : o.op = .call { callee := .invoke recv "Rescans", args := #[], argTypes := tys }) (hr : a.eval recv = engV b E) : (execOp a.eval o).run Tryz.prog w = .ok (.enter E.rescansF #[.pointer (some ⟨b, 0, none⟩)]) w := by
  have key : ∀ (t : TypeId) (f : FuncId), a.eval recv = .iface t (.pointer (some ⟨b, 0, none⟩)) → (Go.method (Tryz.prog.types.size + Made.depth) t (.pointer (some ⟨b, 0, none⟩)) "Rescans").run Tryz.prog w = .ok (f, .pointer (some ⟨b, 0, none⟩)) w → (∀ args w, (callFunc f args).run Tryz.prog w = .ok (.enter f args) w) → (execOp a.eval o).run Tryz.prog w = .ok (.enter f #[.pointer (some ⟨b, 0, none⟩)]) w := by
    intro t f h1 h2 h3
    have h4 := exec_invoke hop h1 h2 h3
    rw [h4]
    simp []
  cases E with
  | st _ => exact key _ _ hr (by kernel_rfl) (enters_of Tryz.func40 (by kernel_rfl) rfl)
  | dj => exact key _ _ hr (by kernel_rfl) (enters_of Tryz.func153 (by kernel_rfl) rfl)
  | yu => exact key _ _ hr (by kernel_rfl) (enters_of Tryz.func158 (by kernel_rfl) rfl)
  | vy _ => exact key _ _ hr (by kernel_rfl) (enters_of Tryz.func163 (by kernel_rfl) rfl)
theorem wpList_Rescans {ops : Array Oper} {rest : List Oper} {o : Oper} {a : Act} {w : World} {Q : Exit → Act → World → Prop} {b : Nat} {E : Eng} {v : Value} {R : World → Prop} (hg : o.guard = none) (recv : Operand) (tys : Array TypeId) (hop : o.op = .call { callee := .invoke recv "Rescans", args := #[], argTypes := tys }) (hr : a.eval recv = engV b E)
    (hc : Calls Tryz.prog E.rescansF #[.pointer (some ⟨b, 0, none⟩)] w fun e w' => e = .returned v ∧ R w') (hK : ∀ w', R w' → wpList Tryz.prog ops Q rest (a.put o.dst v) w') : wpList Tryz.prog ops Q (o :: rest) a w := by
  refine wpList_plain hg fun K' hK' => ?_
  exact wp_call_of (exec_Rescans recv  tys hop hr ) hc (fun w' h => hK' _ _ (hK w' h))
theorem meth_Pre {et : TypeId} {E : Eng} (h : engT E = et) (b : Nat) (W : World) : (Go.method (Tryz.prog.types.size + Made.depth) et (.pointer (some ⟨b, 0, none⟩)) "Pre").run Tryz.prog W = .ok (E.preF, .pointer (some ⟨b, 0, none⟩)) W := by
  subst h
  cases E <;> kernel_rfl
theorem call_Pre (E : Eng) (args : Array Value) (W : World) : (callFunc E.preF args).run Tryz.prog W = .ok (.enter E.preF args) W := by
  cases E with
  | st _ => exact enters_of Tryz.func147 (by kernel_rfl) rfl args W
  | dj => exact enters_of Tryz.func151 (by kernel_rfl) rfl args W
  | yu => exact enters_of Tryz.func156 (by kernel_rfl) rfl args W
  | vy _ => exact enters_of Tryz.func161 (by kernel_rfl) rfl args W
theorem meth_Post {et : TypeId} {E : Eng} (h : engT E = et) (b : Nat) (W : World) : (Go.method (Tryz.prog.types.size + Made.depth) et (.pointer (some ⟨b, 0, none⟩)) "Post").run Tryz.prog W = .ok (E.postF, .pointer (some ⟨b, 0, none⟩)) W := by
  subst h
  cases E <;> kernel_rfl
theorem call_Post (E : Eng) (args : Array Value) (W : World) : (callFunc E.postF args).run Tryz.prog W = .ok (.enter E.postF args) W := by
  cases E with
  | st _ => exact enters_of Tryz.func17 (by kernel_rfl) rfl args W
  | dj => exact enters_of Tryz.func150 (by kernel_rfl) rfl args W
  | yu => exact enters_of Tryz.func155 (by kernel_rfl) rfl args W
  | vy _ => exact enters_of Tryz.func160 (by kernel_rfl) rfl args W
theorem meth_Remark {et : TypeId} {E : Eng} (h : engT E = et) (b : Nat) (W : World) : (Go.method (Tryz.prog.types.size + Made.depth) et (.pointer (some ⟨b, 0, none⟩)) "Remark").run Tryz.prog W = .ok (E.remarkF, .pointer (some ⟨b, 0, none⟩)) W := by
  subst h
  cases E <;> kernel_rfl
theorem call_Remark (E : Eng) (args : Array Value) (W : World) : (callFunc E.remarkF args).run Tryz.prog W = .ok (.enter E.remarkF args) W := by
  cases E with
  | st _ => exact enters_of Tryz.func15 (by kernel_rfl) rfl args W
  | dj => exact enters_of Tryz.func152 (by kernel_rfl) rfl args W
  | yu => exact enters_of Tryz.func157 (by kernel_rfl) rfl args W
  | vy _ => exact enters_of Tryz.func162 (by kernel_rfl) rfl args W
theorem meth_Reset {et : TypeId} {E : Eng} (h : engT E = et) (b : Nat) (W : World) : (Go.method (Tryz.prog.types.size + Made.depth) et (.pointer (some ⟨b, 0, none⟩)) "Reset").run Tryz.prog W = .ok (E.resetF, .pointer (some ⟨b, 0, none⟩)) W := by
  subst h
  cases E <;> kernel_rfl
theorem call_Reset (E : Eng) (args : Array Value) (W : World) : (callFunc E.resetF args).run Tryz.prog W = .ok (.enter E.resetF args) W := by
  cases E with
  | st _ => exact enters_of Tryz.func148 (by kernel_rfl) rfl args W
  | dj => exact enters_of Tryz.func154 (by kernel_rfl) rfl args W
  | yu => exact enters_of Tryz.func159 (by kernel_rfl) rfl args W
  | vy _ => exact enters_of Tryz.func164 (by kernel_rfl) rfl args W
theorem meth_Rescans {et : TypeId} {E : Eng} (h : engT E = et) (b : Nat) (W : World) : (Go.method (Tryz.prog.types.size + Made.depth) et (.pointer (some ⟨b, 0, none⟩)) "Rescans").run Tryz.prog W = .ok (E.rescansF, .pointer (some ⟨b, 0, none⟩)) W := by
  subst h
  cases E <;> kernel_rfl
theorem call_Rescans (E : Eng) (args : Array Value) (W : World) : (callFunc E.rescansF args).run Tryz.prog W = .ok (.enter E.rescansF args) W := by
  cases E with
  | st _ => exact enters_of Tryz.func40 (by kernel_rfl) rfl args W
  | dj => exact enters_of Tryz.func153 (by kernel_rfl) rfl args W
  | yu => exact enters_of Tryz.func158 (by kernel_rfl) rfl args W
  | vy _ => exact enters_of Tryz.func163 (by kernel_rfl) rfl args W
section
variable {w0 w : World} {L R0 : List Res} {b m a n : Nat} {C : Col} {A : AR}
theorem set_keep {L : List Res} {i j : Nat} {r x : Res} (hij : i ≠ j) (hj : L[j]? = some r) : (L.set i x).set j r = L.set i x := set_self (by rw [List.getElem?_set_ne hij]; exact hj)
theorem ERescans (w : World) (b : Nat) (E : Eng) : Calls Tryz.prog E.rescansF #[.pointer (some ⟨b, 0, none⟩)] w fun e w' => e = .returned (.bool E.rescans) ∧ w = w' := by
  cases E with
  | st D => exact BRescans w b
  | dj => exact DRescans w b
  | yu => exact YRescans w b
  | vy V => exact VRescans w b
theorem EPre (E : Eng) (S : Sep w0 w L) (i j : Nat) (hi : L[i]? = some (engR b m a A.n n E)) (hj : L[j]? = some (markR m a n C)) (src : Int) (old : Nat) (ho : old < n) :
    Calls Tryz.prog E.preF #[.pointer (some ⟨b, 0, none⟩), .int .i64 src, .int .i64 (old : Int)] w fun e w' => e = .returned (.tuple #[]) ∧ Sep w0 w' (L.set j (markR m a n (E.pre old C))) := by
  cases E with
  | st D => exact (BPre w b src old).mono (by rintro e w' ⟨rfl, rfl⟩; exact ⟨rfl, by rw [show Eng.pre old (.st D) C = C from rfl, set_self hj]; exact S⟩)
  | dj => exact (DPre w b src old).mono (by rintro e w' ⟨rfl, rfl⟩; exact ⟨rfl, by rw [show Eng.pre old .dj C = C from rfl, set_self hj]; exact S⟩)
  | yu => exact YPre S i j hi hj src old ho
  | vy V => exact (VPre w b src old).mono (by rintro e w' ⟨rfl, rfl⟩; exact ⟨rfl, by rw [show Eng.pre old (.vy V) C = C from rfl, set_self hj]; exact S⟩)
theorem EPost (E : Eng) (S : Sep w0 w L) (i j k : Nat) (hi : L[i]? = some (engR b m a A.n n E)) (hj : L[j]? = some (markR m a n C)) (hk : L[k]? = some (arenaR a A)) (hij : i ≠ j) (hik : i ≠ k) (hn : A.n ≤ 1000) (hn5 : n ≤ 100000) (src old new : Nat) (black early : Bool) (hs : src < n) (ho : old < n) (hw : new < n) :
    Calls Tryz.prog E.postF #[.pointer (some ⟨b, 0, none⟩), .agg #[.int .i64 (src : Int), .int .i64 (old : Int), .int .i64 (new : Int), .bool black, .bool early]] w fun e w' => e = .returned (.tuple #[]) ∧ Sep w0 w' ((L.set i (engR b m a A.n n (E.post A src old new black early C).1)).set j (markR m a n (E.post A src old new black early C).2)) := by
  cases E with
  | st D => exact (BPost S i k hi hk hik hn (src : Int) (old : Int) (new : Int) black early (by omega)).mono (by rintro e w' ⟨rfl, h⟩; exact ⟨rfl, by rw [show (Eng.post A src old new black early (.st D) C).2 = C from rfl, set_keep hij hj]; exact h⟩)
  | dj =>
    rcases Nat.eq_zero_or_pos new with rfl | hp
    · exact (DPostNil S i hi (src : Int) (old : Int) black early).mono (by rintro e w' ⟨rfl, h⟩; exact ⟨rfl, by rw [show (Eng.post A src old 0 black early .dj C).2 = C from shade0_zero C, set_keep hij hj, show (Eng.post A src old 0 black early .dj C).1 = .dj from rfl, set_self hi]; exact h⟩)
    · exact (DPost S i j hi hj (src : Int) (old : Int) new black early hp hw).mono (by rintro e w' ⟨rfl, h⟩; exact ⟨rfl, by rw [show (Eng.post A src old new black early .dj C).2 = C.shade new from shade0_pos hp, show (Eng.post A src old new black early .dj C).1 = .dj from rfl, set_self hi]; exact h⟩)
  | yu => exact (YPost S i j hi hij hj (src : Int) old new black early ho hw).mono (by rintro e w' ⟨rfl, h⟩; exact ⟨rfl, by rw [show (Eng.post A src old new black early .yu C).1 = .yu from rfl, set_self hi]; exact h⟩)
  | vy V => exact (VPost S i hi (src : Int) old new black early ho hw).mono (by rintro e w' ⟨rfl, h⟩; exact ⟨rfl, by rw [show (Eng.post A src old new black early (.vy V) C).2 = C from rfl, set_keep hij hj]; exact h⟩)
theorem EReset (E : Eng) (S : Sep w0 w L) (i : Nat) (hi : L[i]? = some (engR b m a A.n n E)) (hn : A.n ≤ 1000) (hn0 : 0 < n) :
    Calls Tryz.prog E.resetF #[.pointer (some ⟨b, 0, none⟩)] w fun e w' => e = .returned (.tuple #[]) ∧ Sep w0 w' (L.set i (engR b m a A.n n E.reset)) := by
  cases E with
  | st D => exact BReset S i hi hn
  | dj => exact (DReset w b).mono (by rintro e w' ⟨rfl, rfl⟩; exact ⟨rfl, by rw [show Eng.reset .dj = .dj from rfl, set_self hi]; exact S⟩)
  | yu => exact (YReset w b).mono (by rintro e w' ⟨rfl, rfl⟩; exact ⟨rfl, by rw [show Eng.reset .yu = .yu from rfl, set_self hi]; exact S⟩)
  | vy V => exact VReset S i hi hn0
theorem ERemark (E : Eng) (hwf : A.Wf) (hn : A.size = (n : Int)) (hn2 : A.n ≤ 1000) (hok : E.ok A.n) (S : Sep w0 w (engR b m a A.n n E :: markR m a n C :: arenaR a A :: R0)) :
    Calls Tryz.prog E.remarkF #[.pointer (some ⟨b, 0, none⟩)] w fun e w' => e = .returned (.tuple #[]) ∧ Sep w0 w' (engR b m a A.n n (E.remark A C).1 :: markR m a n (E.remark A C).2 :: arenaR a A :: R0) := by
  cases E with
  | st D => exact BRemark hwf hn hn2 hok S
  | dj => exact (DRemark w b).mono (by rintro e w' ⟨rfl, rfl⟩; exact ⟨rfl, S⟩)
  | yu => exact (YRemark w b).mono (by rintro e w' ⟨rfl, rfl⟩; exact ⟨rfl, S⟩)
  | vy V =>
    have h := PRemark (b := b) (m := m) S hn hwf
    rw [show n = A.n * 32 + 1 by unfold AR.size at hn; omega] at h ⊢
    exact h
theorem Eng.post_ok {N : Nat} (E : Eng) (hN : A.n = N) (hok : E.ok A.n) (src old new : Nat) (black early : Bool) : (E.post A src old new black early C).1.ok A.n := by
  cases E with
  | st D =>
    refine dirtied_lt hok ?_
    unfold AR.page AR.size
    split
    · omega
    · omega
  | dj => trivial
  | yu => trivial
  | vy V => trivial
theorem Eng.reset_ok (E : Eng) (N : Nat) : E.reset.ok N := by
  cases E with
  | st D => intro i hi; cases hi
  | dj => trivial
  | yu => trivial
  | vy V => trivial
end
end Go.Proofs.YtbcabjpafeocgaaGreat

/-
  The contract of layer 11's Reach, where its roots are a part of a list. Conditions: as the theorem says.
-/
namespace Go.Proofs.YtbcabjpafeocgaaGreat
set_option linter.unusedVariables false
set_option linter.unusedSimpArgs false
open Go.RowKit Go.Shelf Go.Maps

section
variable {w0 w : World} {R0 : List Res} {b : Nat} {T : Nat → List Nat} {objs from_ : List Nat} {v0 : Value} {X : Res}
/-- The search is under way: k is how much is still to do. -/
def ReachJX (w0 : World) (R0 : List Res) (b mb : Nat) (T : Nat → List Nat) (objs from_ : List Nat) (X : Res) (v : Value) (w : World) (k : Nat) : Prop :=
  ∃ (V : Nat → Bool) (l : List Nat), Seek T from_ V l ∧ (∀ x ∈ l, x ∈ objs) ∧ (∀ x, V x = true → x ∈ objs) ∧ k = l.length + todoN T V objs ∧ k ≤ 3000 ∧
    Sep w0 w (rowR 34 1 v l.length (nums l) :: mapR Tryz.prog 55 34 3 .i64 .i64 mb (objs.countP V) (visM V) :: X :: adjR Tryz.prog 34 34 b T :: R0)
set_option maxHeartbeats 4000000 in
theorem ReachX (hF : Field_ objs T) (hfrom : ∀ x ∈ from_, x ∈ objs) (hfl : from_.length ≤ 100) (happ : ∀ W Y, Sep w0 W (rowR 34 1 (.slice none 0 0) 0 [] :: Y :: X :: adjR Tryz.prog 34 34 b T :: R0) → ∃ v' w', (Builtin.append_ #[25, 25] 25 #[.slice none 0 0, v0]).run Tryz.prog W = .ok v' w' ∧ Sep w0 w' (rowR 34 1 v' from_.length (nums from_) :: Y :: X :: adjR Tryz.prog 34 34 b T :: R0)) (S : Sep w0 w (X :: adjR Tryz.prog 34 34 b T :: R0)) :
    Calls Tryz.prog 28 #[v0, .map (some b)] w fun e w' => ∃ (mb : Nat) (V : Nat → Bool), e = .returned (.map (some mb)) ∧ (∀ x, V x = true ↔ Leads T (fun x => x ∈ from_) x) ∧ (∀ x, V x = true → x ∈ objs) ∧
      Sep w0 w' (mapR Tryz.prog 55 34 3 .i64 .i64 mb (objs.countP V) (visM V) :: X :: adjR Tryz.prog 34 34 b T :: R0) := by
  obtain ⟨mb, hmb⟩ : ∃ mb, w.heap.size = mb := ⟨_, rfl⟩
  have hmm := @run_makeMap Tryz.prog
  have h1 := S.newMap Tryz.prog 55 34 3 .i64 .i64
  rw [hmb] at h1
  have h2 : Sep w0 (w.alloc (.map #[] 0)) (rowR 34 1 (.slice none 0 0) 0 [] :: mapR Tryz.prog 55 34 3 .i64 .i64 mb (objs.countP (fun _ => false)) (visM (fun _ => false)) :: X :: adjR Tryz.prog 34 34 b T :: R0) := by
    rw [visM_none, List.countP_eq_zero.2 (by simp)]
    exact h1.nilRow 34 1
  obtain ⟨v1, w1, hrun, hs1⟩ := happ _ _ h2
  have H1 := Lib.hid (show ReachJX w0 R0 b mb T objs from_ X v1 w1 (from_.length + todoN T (fun _ => false) objs) from ⟨fun _ => false, from_, seek_start T from_, hfrom, by simp, rfl, by have := todoN_le hF.short (fun _ => false) objs; have := hF.few; omega, hs1⟩)
  have HRUN := Lib.hid hrun
  have HF := Lib.hid hF
  clear S h1 h2 hs1 hrun hF hfrom happ
  go_enter Tryz.func28, Tryz.ntmps28
  go_wp2_with (at_builtin; refine wpList_append_run rfl _ _ _ rfl rfl rfl HRUN.out ?_)
  try simp only [hmb]
  clear hmb hmm HRUN
  go_loopw [6] (fun v wr => ∃ k, ReachJX w0 R0 b mb T objs from_ X v wr k) (fun v wr => leastN (ReachJX w0 R0 b mb T objs from_ X v wr))
  case atStart => exact ⟨_, H1.out⟩
  case round =>
    clear H1
    have HREL := Lib.hid hrel
    obtain ⟨V, l, hseek, hl, hV, hk, hk3, hs⟩ := (leastN_is hrel).1
    obtain ⟨kk, hkk⟩ : ∃ kk, leastN (ReachJX w0 R0 b mb T objs from_ X u6 wr) = kk := ⟨_, rfl⟩
    rw [hkk] at hk hk3
    have HKK := Lib.hid hkk
    have HK := Lib.hid hk
    have HSK := Lib.hid hseek
    have HL := Lib.hid hl
    have HVO := Lib.hid hV
    clear hrel hkk hk hseek hl hV
    rcases List.eq_nil_or_concat l with rfl | ⟨l, x, hlx⟩
    · obtain ⟨AL, cl, rfl, _, _⟩ := hs.rowShape 0 rfl
      have HS := Lib.hid hs
      clear hs
      go_wp2
      go_ret
      exact ⟨mb, V, rfl, HSK.out.done, HVO.out, HS.out.tail⟩
    · rw [List.concat_eq_append] at hlx
      subst hlx
      have hxo : x ∈ objs := HL.out x (by simp)
      have hx3 := HF.out.lt x hxo
      obtain ⟨Ln, hLn⟩ : ∃ Ln, l.length = Ln := ⟨_, rfl⟩
      have HLN := Lib.hid hLn
      rw [show (l ++ [x]).length = Ln + 1 by simp [hLn], nums_append] at hs
      clear hLn
      obtain ⟨g, cl, rfl, hcl, hcm⟩ := hs.rowSome 0 rfl (by omega)
      have cx := hs.rowCell 0 rfl Ln (.int .i64 (x : Int)) (by rw [← HLN.out, ← nums_length l]; simp [nums])
      have hlk := map_get refIntOk hs 1 rfl (wfx (x := x) (by omega))
      rw [visM_at] at hlk
      have hLI : (0 : Int) < (Ln : Int) + 1 := by omega
      have hxz : ¬ (x : Int) = 0 := by omega
      have hxb : ((x : Int) == 0) = false := by simp; omega
      have hkl : Ln + 1 + todoN T V objs ≤ 3000 := by have := HK.out; rw [List.length_append, HLN.out] at this; simp at this; omega
      have hpop := hs.rowPop (n := Ln) (xs := nums l) (last := nums [x]) 0 rfl (by rw [nums_length, HLN.out]; omega)
      cases hVx : V x with
      | true =>
        rw [hVx] at hlk
        simp only [if_true, Option.getD_some] at hlk
        have HVX := Lib.hid hVx
        have HP := Lib.hid hpop
        clear hs hpop hVx
        go_wp2
        have hJ : ReachJX w0 R0 b mb T objs from_ X (.slice (some ⟨g, 0, none⟩) Ln cl) wr (l.length + todoN T V objs) := ⟨V, l, HSK.out.old HVX.out, fun y hy => HL.out y (List.mem_append.2 (.inl hy)), HVO.out, rfl, by rw [HLN.out]; omega, by rw [HLN.out]; exact HP.out⟩
        go_roundw
        case rel => exact ⟨_, by first | exact hJ | simpa using hJ⟩
        case measure =>
          refine leastN_lt HREL.out (by first | exact hJ | simpa using hJ) ?_
          rw [HKK.out, HK.out]
          simp
      | false =>
        rw [hVx] at hlk
        simp only [Bool.false_eq_true, if_false, Option.getD_none] at hlk
        have HVX := Lib.hid hVx
        obtain ⟨w2, hput, hs2⟩ := map_put refIntOk hpop 1 rfl (by unfold maxLen; have := List.countP_le_length (p := V) (l := objs); have := HF.out.few; omega) (wfx (x := x) (by omega)) (c := 1) (by decide)
        rw [visM_put, visM_at, hVx] at hs2
        simp only [Bool.false_eq_true, if_false, Option.isSome_none] at hs2
        rw [← countP_put V HF.out.nodup hxo hVx] at hs2
        have hs3 : Sep w0 w2 (adjR Tryz.prog 34 34 b T :: rowR 34 1 (.slice (some ⟨g, 0, none⟩) Ln cl) Ln (nums l) :: mapR Tryz.prog 55 34 3 .i64 .i64 mb (objs.countP (putB V x)) (visM (putB V x)) :: X :: R0) := hs2.front 4 [3, 0, 1, 2]
        obtain ⟨cnt, M, O, hhole, hs4⟩ := adj_out hs3 x (by omega)
        have hlk2 := gmap_get keyRef Tryz.underlying26 (zeroRow _) hs4 0 rfl (keyOfRef (x := x) (by omega))
        have hTx := HF.out.short x
        obtain ⟨v9, w9, hrun, hs9⟩ := hs4.append_row (P := Tryz.prog) (t := 25) 25 Tryz.underlying25 refInfo rfl (by decide) 3 rfl 1 rfl (nums_one _) (by unfold maxLen; omega) (by omega)
        have hs10 := hhole.same w0 w9 _ hs9
        have HPUT := Lib.hid hput
        have HRUN := Lib.hid hrun
        have HS10 := Lib.hid hs10
        clear hs hpop hs2 hs3 hs4 hs9 hs10 hput hrun hVx hhole
        go_wp2_with (first
          | (at_mapUpdate; refine wpList_mapUpdate_run rfl _ _ _ _ rfl rfl rfl rfl HPUT.out ?_)
          | (at_builtin; refine wpList_append_run rfl _ _ _ rfl rfl rfl HRUN.out ?_))
        have hput := todoN_put T V HF.out.nodup hxo HVX.out
        have hJ : ReachJX w0 R0 b mb T objs from_ X v9 w9 ((l ++ T x).length + todoN T (putB V x) objs) := ⟨putB V x, l ++ T x, HSK.out.new, fun y hy => by
            rcases List.mem_append.1 hy with h | h
            · exact HL.out y (List.mem_append.2 (.inl h))
            · exact HF.out.into x hxo y h, fun y hy => by
            simp only [putB, Bool.or_eq_true, decide_eq_true_eq] at hy
            rcases hy with h | rfl
            · exact HVO.out y h
            · exact hxo, rfl, by rw [List.length_append, HLN.out]; omega, by
            rw [List.length_append, HLN.out, nums_append]
            exact HS10.out.front 4 [1, 2, 3, 0]⟩
        go_roundw
        case rel => exact ⟨_, hJ⟩
        case measure =>
          refine leastN_lt HREL.out hJ ?_
          rw [HKK.out, HK.out, List.length_append, List.length_append]
          simp
          omega
theorem ReachSub {rs : List Nat} {g n cap k cp : Nat} (hF : Field_ objs T) (hfrom : ∀ x ∈ rs, x ∈ objs) (hrs : rs.length = n) (hk : k ≤ n) (hn : n ≤ 100) (S : Sep w0 w (rowR 34 1 (.slice (some ⟨g, 0, none⟩) n cap) n (nums rs) :: adjR Tryz.prog 34 34 b T :: R0)) :
    Calls Tryz.prog 28 #[.slice (some ⟨g, 0, none⟩) k cp, .map (some b)] w fun e w' => ∃ (mb : Nat) (V : Nat → Bool), e = .returned (.map (some mb)) ∧ (∀ x, V x = true ↔ Leads T (fun x => x ∈ rs.take k) x) ∧ (∀ x, V x = true → x ∈ objs) ∧
      Sep w0 w' (mapR Tryz.prog 55 34 3 .i64 .i64 mb (objs.countP V) (visM V) :: rowR 34 1 (.slice (some ⟨g, 0, none⟩) n cap) n (nums rs) :: adjR Tryz.prog 34 34 b T :: R0) := by
  have hlen : (rs.take k).length = k := by rw [List.length_take]; omega
  refine ReachX hF (from_ := rs.take k) (fun x hx => hfrom x (List.mem_of_mem_take hx)) (by omega) ?_ S
  intro W Y h2
  obtain ⟨v1, w1, hrun, hs1⟩ := h2.append_some (P := Tryz.prog) (t := 25) (ad := ⟨g, 0, none⟩) (m := k) (c := cp) (us := nums (rs.take k)) 25 Tryz.underlying25 refInfo rfl (by decide) 0 rfl (by rw [nums_length, hlen]; omega) (by
    intro j u hj
    have hlt := (List.getElem?_eq_some_iff.1 hj).1
    rw [nums_length, hlen] at hlt
    have h3 : (nums rs)[j]? = some u := by
      rw [← hj]
      unfold nums
      rw [List.getElem?_map, List.getElem?_map, List.getElem?_take, if_pos hlt]
    have h4 := h2.rowCell 2 rfl j u h3
    by_cases e : j = 0
    · subst e; simpa [Addr.add] using h4
    · simpa [Addr.add, e] using h4) (nums_one _) (by unfold maxLen; omega) (by omega)
  refine ⟨v1, w1, hrun, ?_⟩
  rw [hlen]
  simpa using hs1
end
end Go.Proofs.YtbcabjpafeocgaaGreat

/-
  What a barrier knows, and what is marked, lies among given objects; two ends of marking from one state are one (layer 16). Conditions: as each theorem says; no walk.
-/
namespace Go.Proofs.YtbcabjpafeocgaaGreat
set_option linter.unusedVariables false
set_option linter.unusedSimpArgs false
open Go.RowKit Go.Shelf

section
variable {A : AR} {C C' : Col} {E : Eng} {l rs : List Nat} {e lg : Int} {pts : Nat → List Nat} {d : Nat} {S : Nat → Prop}
/-- What counts is of these. -/
def Eng.inS (S : Nat → Prop) : Eng → Prop
  | .vy V => ∀ x, 0 < V.cnt x → S x
  | _ => True
def Col.inS (S : Nat → Prop) (C : Col) : Prop := ∀ x, C.mz x = true → S x
theorem Eng.idle_in (h : E.idle) : E.inS S := by
  cases E with
  | vy V => intro x hx; rw [h.1 x] at hx; omega
  | _ => trivial
theorem Eng.reset_in (E : Eng) : E.reset.inS S := Eng.idle_in (Eng.reset_idle E)
theorem Col.inS_shade (h : C.inS S) {r : Nat} (hr : S r) : (C.shade r).inS S := by
  intro x hx
  have hx' : (C.mz x || decide (x = r)) = true := hx
  rcases Bool.or_eq_true _ _ ▸ hx' with h1 | h1
  · exact h x h1
  · exact of_decide_eq_true h1 ▸ hr
theorem Col.inS_shade0 (h : C.inS S) {r : Nat} (hr : r = 0 ∨ S r) : (C.shade0 r).inS S := by
  rcases hr with rfl | hr
  · rw [shade0_zero]; exact h
  · rcases Nat.eq_zero_or_pos r with rfl | hp
    · rw [shade0_zero]; exact h
    · rw [shade0_pos hp]; exact Col.inS_shade h hr
theorem Col.inS_shades (h : C.inS S) (hl : ∀ x ∈ l, S x) : (C.shades l).inS S := by
  intro x hx
  rw [shades_mz] at hx
  rcases Bool.or_eq_true _ _ ▸ hx with h1 | h1
  · exact h x h1
  · exact hl x (of_decide_eq_true h1)
theorem Col.inS_black (h : C.inS S) {r : Nat} (hr : S r) : (C.black r).inS S := by
  intro x hx
  have hx' : (C.mz x || decide (x = r)) = true := hx
  rcases Bool.or_eq_true _ _ ▸ hx' with h1 | h1
  · exact h x h1
  · exact of_decide_eq_true h1 ▸ hr
theorem Eng.pre_in {old : Nat} (h : C.inS S) (ho : old = 0 ∨ S old) : (E.pre old C).inS S := by
  cases E with
  | yu => exact Col.inS_shade0 h ho
  | _ => exact h
theorem Vy.up_in {V : Vy} (h : ∀ x, 0 < V.cnt x → S x) {y : Nat} (hy : y = 0 ∨ S y) : ∀ x, 0 < (V.up y).cnt x → S x := by
  intro x hx
  rw [up_cnt] at hx
  split at hx
  · exact h x hx
  · by_cases e : x = y
    · subst e; rcases hy with h1 | h1
      · omega
      · exact h1
    · rw [updC_other _ _ e] at hx; exact h x hx
theorem Vy.post_in {V : Vy} (h : ∀ x, 0 < V.cnt x → S x) {old new : Nat} (black : Bool) (hn : new = 0 ∨ S new) : ∀ x, 0 < (V.post black old new).cnt x → S x := by
  unfold Vy.post
  split
  · intro x hx
    exact Vy.up_in h hn x (Nat.lt_of_lt_of_le hx (down_le _ _ x))
  · exact h
theorem Eng.post_in {src old new : Nat} {black early : Bool} (h : C.inS S) (he : E.inS S) (ho : old = 0 ∨ S old) (hn : new = 0 ∨ S new) :
    (E.post A src old new black early C).1.inS S ∧ (E.post A src old new black early C).2.inS S := by
  cases E with
  | st D => exact ⟨trivial, h⟩
  | dj => exact ⟨trivial, Col.inS_shade0 h hn⟩
  | yu =>
    refine ⟨trivial, ?_⟩
    show (if early = true then (C.shade0 old).shade0 new else C.shade0 old).inS S
    split
    · exact Col.inS_shade0 (Col.inS_shade0 h ho) hn
    · exact Col.inS_shade0 h ho
  | vy V => exact ⟨Vy.post_in he black hn, h⟩
theorem greyD_mz (A : AR) (D : Nat → Bool) (C : Col) : (C.greyD A D).mz = C.mz := rfl
theorem Eng.remark_in (h : C.inS S) (he : E.inS S) : (E.remark A C).1.inS S ∧ (E.remark A C).2.inS S := by
  cases E with
  | st D => exact ⟨trivial, fun x hx => h x (by rw [show (Eng.remark A (.st D) C).2 = C.greyD A D from rfl, greyD_mz] at hx; exact hx)⟩
  | dj => exact ⟨trivial, h⟩
  | yu => exact ⟨trivial, h⟩
  | vy V =>
    refine ⟨he, Col.inS_shades h (fun x hx => ?_)⟩
    unfold Vy.what at hx
    exact he x (of_decide_eq_true (List.mem_filter.1 hx).2)
theorem Eng.fin_in (h : C.inS S) (he : E.inS S) (hl : ∀ x ∈ l, S x) : (E.fin A l C).inS S := by
  unfold Eng.fin
  split
  · exact (Eng.remark_in (Col.inS_shades h hl) he).2
  · exact (Eng.remark_in h he).2
/-- Scanned ones are marked. -/
def Col.fit (C : Col) : Prop := ∀ x, C.sc x = true → C.mz x = true
/-- From one state to the end: whatever order is taken, the same is marked, and as many are scanned. -/
theorem steps_same {C1 C2 : Col} {d1 d2 : Nat} (hn : rs.Nodup) (hc : ∀ x ∈ rs, ∀ y ∈ pts x, y ∈ rs) (h0 : ∀ x, C.mz x = true → x ∈ rs) (hs : C.fit)
    (h1 : Steps pts d1 C C1) (n1 : ∀ x, C1.grey x = false) (h2 : Steps pts d2 C C2) (n2 : ∀ x, C2.grey x = false) : C1 = C2 ∧ d1 = d2 := by
  have key : ∀ {d : Nat} {C' : Col}, Steps pts d C C' → (∀ x, C'.grey x = false) → ∀ x, C'.mz x = true ↔ Leads (fun x => if C.sc x = true then [] else pts x) (fun x => C.mz x = true) x := by
    intro d C' h n x
    have hb : Steps (fun x => if C.sc x = true then [] else pts x) d C C' := h.blind (fun x hx => by rw [if_neg (by rw [hx]; decide)])
    exact hb.done n (fun x hx y hy => by rw [if_pos hx] at hy; cases hy) x
  have e : C1 = C2 := by
    have hm : ∀ x, C1.mz x = C2.mz x := fun x => Bool.eq_iff_iff.2 ((key h1 n1 x).trans (key h2 n2 x).symm)
    refine Col.ext hm (fun x => ?_)
    rw [Steps.end_ n1 (h1.sub hs), Steps.end_ n2 (h2.sub hs), hm]
  refine ⟨e, ?_⟩
  have c1 := h1.count hn hc h0
  have c2 := h2.count hn hc h0
  rw [e] at c1
  omega
end
end Go.Proofs.YtbcabjpafeocgaaGreat
