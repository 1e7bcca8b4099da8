/-
  Parts of the proof, joined: EngineAlikeW. Conditions: as each part says.
-/
import Derived.Test.YtbcabjpafeocgaaGreatL8
import Derived.Test.YtbcabjpafeocgaaGreatL1
import Derived.Test.YtbcabjpafeocgaaGreatL5
import Derived.StillTailTactics
import Derived.Deep.CutRange
import Derived.Deep.CutBlock

/-
  The walk of EngineAlike. Conditions: as the theorem says.
-/
namespace Go.Proofs.YtbcabjpafeocgaaGreat
set_option linter.unusedVariables false
set_option linter.unusedSimpArgs false
open Go.RowKit Go.Shelf

theorem wp_call_any {P : Program} {Q : Exit → Act → World → Prop} {o : Oper} {a : Act} {w : World} {f : FuncId} {args : Array Value} {R : Ending → World → Prop} {K : Act → World → Prop} (hrun : (execOp a.eval o).run P w = .ok (.enter f args) w) (hc : Calls P f args w R)
    (hK : ∀ e w', R e w' → ∃ v, e = .returned v ∧ K (a.put o.dst v) w') : o.wp P a w K Q := by
  unfold Oper.wp
  rw [hrun]
  refine Calls.mono hc ?_
  intro e w' hr
  obtain ⟨v, rfl, hk⟩ := hK e w' hr
  exact hk
theorem Eng.post_T (E : Eng) (A : AR) (src old new : Nat) (black early : Bool) (C : Col) : engT (E.post A src old new black early C).1 = engT E := by cases E <;> rfl
theorem Eng.reset_T (E : Eng) : engT E.reset = engT E := by cases E <;> rfl
theorem Eng.remark_T (E : Eng) (A : AR) (C : Col) : engT (E.remark A C).1 = engT E := by cases E <;> rfl
theorem Eng.remark_ok (E : Eng) (A : AR) (C : Col) {N : Nat} (h : E.ok N) : (E.remark A C).1.ok N := by
  cases E with
  | st D => intro i hi; cases hi
  | dj => trivial
  | yu => trivial
  | vy V => trivial
theorem engV_is {E : Eng} {et : TypeId} (h : engT E = et) (b : Nat) : Value.iface et (.pointer (some ⟨b, 0, none⟩)) = engV b E := by unfold engV; rw [h]
theorem Col.fit_shades {C : Col} (h : C.fit) (l : List Nat) : (C.shades l).fit := by
  intro x hx
  rw [shades_sc] at hx
  rw [shades_mz, h x hx]
  rfl
theorem Eng.remark_fit {E : Eng} {A : AR} {C : Col} (h : C.fit) : (E.remark A C).2.fit := by
  cases E with
  | st D =>
    intro x hx
    have hx' : (C.greyD A D).sc x = true := hx
    show (C.greyD A D).mz x = true
    rw [greyD_mz]
    exact h x ((Bool.and_eq_true _ _ ▸ hx' : C.sc x = true ∧ _).1)
  | dj => exact h
  | yu => exact h
  | vy V => exact Col.fit_shades h _
theorem Eng.fin_fit {E : Eng} {A : AR} {l : List Nat} {C : Col} (h : C.fit) : (E.fin A l C).fit := by
  unfold Eng.fin
  split
  · exact Eng.remark_fit (Col.fit_shades h l)
  · exact Eng.remark_fit h
theorem mark_fit {w0 w : World} {L : List Res} {m a n : Nat} {C : Col} (S : Sep w0 w L) (i : Nat) (hi : L[i]? = some (markR m a n C)) : C.fit := by
  obtain ⟨o, ho, _⟩ := mark_open S i hi
  exact ho.sc
set_option maxRecDepth 100000 in
set_option maxHeartbeats 16000000 in
theorem engineAlike_walk (e0 e1 e2 e3 e4 e5 : Int) (A0 : Option Addr) (n0 c0 : Nat) (D0 : Nat → Nat → Int) (A1 : Option Addr) (n1 c1 : Nat) (D1 : Nat → Nat → Int) (A2 : Option Addr) (n2 c2 : Nat) (D2 : Nat → Nat → Int) (w : World) (he0 : (Lit.int .u8 e0).wf = true) (he1 : (Lit.int .u8 e1).wf = true) (he2 : (Lit.int .u8 e2).wf = true) (he3 : (Lit.int .u8 e3).wf = true) (he4 : (Lit.int .u8 e4).wf = true) (he5 : (Lit.int .u8 e5).wf = true) (hz0 : ArgI w A0 n0 [.u8] D0) (hm0 : n0 ≤ maxLen) (hz1 : ArgI w A1 n1 [.u16, .u16, .u16] D1) (hm1 : n1 ≤ maxLen) (hz2 : ArgI w A2 n2 [.u8, .u8, .u8, .u8] D2) (hm2 : n2 ≤ maxLen) :
    Calls Tryz.prog 9 #[.agg #[.int .u8 e0, .int .u8 e1, .int .u8 e2, .int .u8 e3, .int .u8 e4, .int .u8 e5], .agg #[.slice A0 n0 c0, .slice A1 n1 c1], .slice A2 n2 c2] w fun e w' => e = .returned (.bool true) ∧ Below w.heap.size w w' := by
  have HZ0 := Lib.hid hz0
  have HZ1 := Lib.hid hz1
  have HZ2 := Lib.hid hz2
  unfold maxLen at hm0 hm1
  try unfold maxLen at hm2
  clear hz0 hz1 hz2
  obtain ⟨T, hT⟩ : ∃ T, w.heap.size = T := ⟨_, rfl⟩
  have hs0 := ((Sep.start w).box #[.int .u8 e0, .int .u8 e1, .int .u8 e2, .int .u8 e3, .int .u8 e4, .int .u8 e5] 47).box #[.slice A0 n0 c0, .slice A1 n1 c1] 30
  rw [World.size_alloc, hT] at hs0
  have HS0 := Lib.hid hs0
  clear hs0
  have hw0_ := wf8 he0
  have hw1_ := wf8 he1
  have hw2_ := wf8 he2
  have hw3_ := wf8 he3
  have hw4_ := wf8 he4
  have hw5_ := wf8 he5
  go_enter Tryz.func9, Tryz.ntmps9
  by_cases hsmall : n0 ≤ 40 ∧ n1 ≤ 120 ∧ n2 ≤ 60
  · have hsd : (decide (n0 ≤ 40) && decide (n1 ≤ 120)) = true := by rw [decide_eq_true hsmall.1, decide_eq_true hsmall.2.1]; rfl
    have HSD := Lib.hid hsd
    obtain ⟨hn0, hn1, hnl⟩ := hsmall
    have hnlI : ¬ (60 : Int) < (n2 : Int) := by omega
    clear hsd
    by_cases hz : n0 = 0
    · have hzb : ((n0 : Int) == 0) = true := by simp; omega
      have hzd : decide ((n0 : Int) = 0) = true := decide_eq_true (by omega)
      clear hz
      go_wp2_with (first
        | (go_at_call 24; refine (fit16 _).mono ?_; rintro e w1 ⟨rfl, hC⟩; have hs1 := HS0.out.same hC; have p0 := (hs1.blk 0 rfl).cell 0; have p1 := (hs1.blk 0 rfl).cell 1; have q0 := (hs1.blk 1 rfl).cell 0; have q1 := (hs1.blk 1 rfl).cell 1; have q2 := (hs1.blk 1 rfl).cell 2; have q3 := (hs1.blk 1 rfl).cell 3; have q4 := (hs1.blk 1 rfl).cell 4; have q5 := (hs1.blk 1 rfl).cell 5; simp only [List.getElem?_toArray, List.getElem?_cons_zero, List.getElem?_cons_succ] at p0 p1 q0 q1 q2 q3 q4 q5; have HS1 := Lib.hid hs1; clear hC hs1 HS0)
        | (go_at_call 25; refine (Small11 _ A0 n0 c0 A1 n1 c1).mono ?_; rw [HSD.out]; rintro e w2 ⟨rfl, hC⟩; clear p0 p1 q0 q1 q2 q3 q4 q5; have hs1 := HS1.out.same hC; have p0 := (hs1.blk 0 rfl).cell 0; have p1 := (hs1.blk 0 rfl).cell 1; have q0 := (hs1.blk 1 rfl).cell 0; have q1 := (hs1.blk 1 rfl).cell 1; have q2 := (hs1.blk 1 rfl).cell 2; have q3 := (hs1.blk 1 rfl).cell 3; have q4 := (hs1.blk 1 rfl).cell 4; have q5 := (hs1.blk 1 rfl).cell 5; simp only [List.getElem?_toArray, List.getElem?_cons_zero, List.getElem?_cons_succ] at p0 p1 q0 q1 q2 q3 q4 q5; have HS2 := Lib.hid hs1; clear hC hs1 HS1)
        | (go_at_call 26; refine (Made08 _ e0 e1 e2 e3 e4 e5 (wf8 he0) (wf8 he1) (wf8 he2) (wf8 he3) (wf8 he4) (wf8 he5)).mono ?_; rintro e w2_ ⟨vc, rfl, ⟨bl, cp, ct, cr, cs, cg, cf, mk, lg, bu, rfl, hmk1, hmk2, hlg1, hlg2⟩, hC⟩; unfold confV; clear p0 p1; have hs2 := (HS2.out.same hC).box #[.int .i64 (e0 % 4), .bool bl, .int .i64 cp, .int .i64 ct, .int .i64 cr, .int .i64 cs, .int .i64 cg, .int .i64 cf, .int .i64 mk, .int .i64 lg, .int .i64 bu] 50; obtain ⟨TC, hTC⟩ : ∃ TC, w2_.heap.size = TC := ⟨_, rfl⟩; rw [hTC] at hs2; have p0 := (hs2.blk 1 rfl).cell 0; have p1 := (hs2.blk 1 rfl).cell 1; have z0 := (hs2.blk 0 rfl).cell 0; have z1 := (hs2.blk 0 rfl).cell 1; have z2 := (hs2.blk 0 rfl).cell 2; have z3 := (hs2.blk 0 rfl).cell 3; have z4 := (hs2.blk 0 rfl).cell 4; have z5 := (hs2.blk 0 rfl).cell 5; have z6 := (hs2.blk 0 rfl).cell 6; have z7 := (hs2.blk 0 rfl).cell 7; have z8 := (hs2.blk 0 rfl).cell 8; have z9 := (hs2.blk 0 rfl).cell 9; have z10 := (hs2.blk 0 rfl).cell 10; simp only [List.getElem?_toArray, List.getElem?_cons_zero, List.getElem?_cons_succ] at p0 p1 z0 z1 z2 z3 z4 z5 z6 z7 z8 z9 z10; have z0f := (hs2.blk 0 rfl).frozen 0; have HS2b := Lib.hid hs2; clear hC hs2 HS2)
        | (go_at_call 11; refine (Made11 A0 n0 c0 D0 A1 n1 c1 D1 HZ0.out HZ1.out hn0 hn1 HS2b.out).mono ?_; rintro e w3 ⟨a, jb, v, A, rs, fs, rfl, hgr, hlen, hs⟩; rw [hlen] at hs; obtain ⟨AL, capl, rfl, hcapl, hmcapl⟩ := hs.rowShape 1 rfl; unfold maxLen at hmcapl; clear z0 z1 z2 z3 z4 z5 z6 z7 z8 z9 z10; have z0 := (hs.blk 3 rfl).cell 0; have z1 := (hs.blk 3 rfl).cell 1; have z2 := (hs.blk 3 rfl).cell 2; have z3 := (hs.blk 3 rfl).cell 3; have z4 := (hs.blk 3 rfl).cell 4; have z5 := (hs.blk 3 rfl).cell 5; have z6 := (hs.blk 3 rfl).cell 6; have z7 := (hs.blk 3 rfl).cell 7; have z8 := (hs.blk 3 rfl).cell 8; have z9 := (hs.blk 3 rfl).cell 9; have z10 := (hs.blk 3 rfl).cell 10; simp only [List.getElem?_toArray, List.getElem?_cons_zero, List.getElem?_cons_succ] at z0 z1 z2 z3 z4 z5 z6 z7 z8 z9 z10; have HGR := Lib.hid hgr; have HRN := Lib.hid hlen; have HS3 := Lib.hid hs; clear hs hgr hlen HS2b))
      go_ret
      exact ⟨rfl, HS3.out.below⟩
    · have hzb : ((n0 : Int) == 0) = false := by simp; omega
      have hzd : decide ((n0 : Int) = 0) = false := decide_eq_false (by omega)
      go_wp2_with (first
        | (go_at_call 24; refine (fit16 _).mono ?_; rintro e w1 ⟨rfl, hC⟩; have hs1 := HS0.out.same hC; have p0 := (hs1.blk 0 rfl).cell 0; have p1 := (hs1.blk 0 rfl).cell 1; have q0 := (hs1.blk 1 rfl).cell 0; have q1 := (hs1.blk 1 rfl).cell 1; have q2 := (hs1.blk 1 rfl).cell 2; have q3 := (hs1.blk 1 rfl).cell 3; have q4 := (hs1.blk 1 rfl).cell 4; have q5 := (hs1.blk 1 rfl).cell 5; simp only [List.getElem?_toArray, List.getElem?_cons_zero, List.getElem?_cons_succ] at p0 p1 q0 q1 q2 q3 q4 q5; have HS1 := Lib.hid hs1; clear hC hs1 HS0)
        | (go_at_call 25; refine (Small11 _ A0 n0 c0 A1 n1 c1).mono ?_; rw [HSD.out]; rintro e w2 ⟨rfl, hC⟩; clear p0 p1 q0 q1 q2 q3 q4 q5; have hs1 := HS1.out.same hC; have p0 := (hs1.blk 0 rfl).cell 0; have p1 := (hs1.blk 0 rfl).cell 1; have q0 := (hs1.blk 1 rfl).cell 0; have q1 := (hs1.blk 1 rfl).cell 1; have q2 := (hs1.blk 1 rfl).cell 2; have q3 := (hs1.blk 1 rfl).cell 3; have q4 := (hs1.blk 1 rfl).cell 4; have q5 := (hs1.blk 1 rfl).cell 5; simp only [List.getElem?_toArray, List.getElem?_cons_zero, List.getElem?_cons_succ] at p0 p1 q0 q1 q2 q3 q4 q5; have HS2 := Lib.hid hs1; clear hC hs1 HS1)
        | (go_at_call 26; refine (Made08 _ e0 e1 e2 e3 e4 e5 (wf8 he0) (wf8 he1) (wf8 he2) (wf8 he3) (wf8 he4) (wf8 he5)).mono ?_; rintro e w2_ ⟨vc, rfl, ⟨bl, cp, ct, cr, cs, cg, cf, mk, lg, bu, rfl, hmk1, hmk2, hlg1, hlg2⟩, hC⟩; unfold confV; clear p0 p1; have hs2 := (HS2.out.same hC).box #[.int .i64 (e0 % 4), .bool bl, .int .i64 cp, .int .i64 ct, .int .i64 cr, .int .i64 cs, .int .i64 cg, .int .i64 cf, .int .i64 mk, .int .i64 lg, .int .i64 bu] 50; obtain ⟨TC, hTC⟩ : ∃ TC, w2_.heap.size = TC := ⟨_, rfl⟩; rw [hTC] at hs2; have p0 := (hs2.blk 1 rfl).cell 0; have p1 := (hs2.blk 1 rfl).cell 1; have z0 := (hs2.blk 0 rfl).cell 0; have z1 := (hs2.blk 0 rfl).cell 1; have z2 := (hs2.blk 0 rfl).cell 2; have z3 := (hs2.blk 0 rfl).cell 3; have z4 := (hs2.blk 0 rfl).cell 4; have z5 := (hs2.blk 0 rfl).cell 5; have z6 := (hs2.blk 0 rfl).cell 6; have z7 := (hs2.blk 0 rfl).cell 7; have z8 := (hs2.blk 0 rfl).cell 8; have z9 := (hs2.blk 0 rfl).cell 9; have z10 := (hs2.blk 0 rfl).cell 10; simp only [List.getElem?_toArray, List.getElem?_cons_zero, List.getElem?_cons_succ] at p0 p1 z0 z1 z2 z3 z4 z5 z6 z7 z8 z9 z10; have z0f := (hs2.blk 0 rfl).frozen 0; have HS2b := Lib.hid hs2; clear hC hs2 HS2)
        | (go_at_call 11; refine (Made11 A0 n0 c0 D0 A1 n1 c1 D1 HZ0.out HZ1.out hn0 hn1 HS2b.out).mono ?_; rintro e w3 ⟨a, jb, v, A, rs, fs, rfl, hgr, hlen, hs⟩; rw [hlen] at hs; obtain ⟨AL, capl, rfl, hcapl, hmcapl⟩ := hs.rowShape 1 rfl; unfold maxLen at hmcapl; clear z0 z1 z2 z3 z4 z5 z6 z7 z8 z9 z10; have z0 := (hs.blk 3 rfl).cell 0; have z1 := (hs.blk 3 rfl).cell 1; have z2 := (hs.blk 3 rfl).cell 2; have z3 := (hs.blk 3 rfl).cell 3; have z4 := (hs.blk 3 rfl).cell 4; have z5 := (hs.blk 3 rfl).cell 5; have z6 := (hs.blk 3 rfl).cell 6; have z7 := (hs.blk 3 rfl).cell 7; have z8 := (hs.blk 3 rfl).cell 8; have z9 := (hs.blk 3 rfl).cell 9; have z10 := (hs.blk 3 rfl).cell 10; simp only [List.getElem?_toArray, List.getElem?_cons_zero, List.getElem?_cons_succ] at z0 z1 z2 z3 z4 z5 z6 z7 z8 z9 z10; have HGR := Lib.hid hgr; have HRN := Lib.hid hlen; have HS3 := Lib.hid hs; clear hs hgr hlen HS2b))
      try simp only [hTC]
      clear hTC
      obtain ⟨wd, hwd⟩ : ∃ wd, w3.drew = wd := ⟨_, rfl⟩
      have hd := HS3.out.drew
      rw [hwd] at hd
      have y8 := (hd.blk 3 rfl).cell 8
      simp only [List.getElem?_toArray, List.getElem?_cons_zero, List.getElem?_cons_succ] at y8
      have HK1 := Lib.hid (KNew hd 0 rfl HGR.out.size (by omega) mk (by omega))
      have hro : Tryz.prog.follows .mixedOrders = true := by kernel_rfl
      clear hd HS3 z0 z1 z2 z3 z4 z5 z6 z7 z8 z9 z10
      refine calmP ?_
      refine wp_region_float (fun W => W.cell? ⟨TC, 8, none⟩ = some (.int .i64 mk)) hro ?_
      rw [hwd]
      clear hwd
      refine wpAnyC_take (i := 0) (v := ?v21) rfl (by kernel_rfl) (by kernel_rfl) (by kernel_rfl) (fun _ _ _ h => h) (.inl ⟨?w21, ?y21⟩) ?h21
      case w21 => kernel_rfl
      case y21 =>
        intro W hf
        obtain hf1 := hf
        unfold yieldsAt
        go_simp
        all_goals first | rfl | exact ⟨rfl, rfl⟩
      simp only [List.getElem_toArray, List.getElem_cons_zero, List.getElem_cons_succ, Act.put, List.setIfInBounds_toArray, List.set_cons_succ, List.set_cons_zero]
      refine wpAnyC_take (i := 1) (v := ?v22) rfl (by kernel_rfl) (by kernel_rfl) (by kernel_rfl) (fun _ _ _ h => h) (.inl ⟨?w22, ?y22⟩) ?h22
      case w22 => kernel_rfl
      case y22 =>
        intro W hf
        obtain hf1 := hf
        unfold yieldsAt
        go_simp
        all_goals first | rfl | exact ⟨rfl, rfl⟩
      simp only [List.getElem_toArray, List.getElem_cons_zero, List.getElem_cons_succ, Act.put, List.setIfInBounds_toArray, List.set_cons_succ, List.set_cons_zero]
      refine wpAnyC_take (i := 2) (v := ?v23) rfl (by kernel_rfl) (by kernel_rfl) (by kernel_rfl) (fun _ _ _ h => h) (.inl ⟨?w23, ?y23⟩) ?h23
      case w23 => kernel_rfl
      case y23 =>
        intro W hf
        obtain hf1 := hf
        unfold yieldsAt
        go_simp
        all_goals first | rfl | exact ⟨rfl, rfl⟩
      simp only [List.getElem_toArray, List.getElem_cons_zero, List.getElem_cons_succ, Act.put, List.setIfInBounds_toArray, List.set_cons_succ, List.set_cons_zero]
      refine wpAnyC_take (i := 4) (v := ?v24) rfl (by kernel_rfl) (by kernel_rfl) (by kernel_rfl) (fun _ _ _ h => h) (.inl ⟨?w24, ?y24⟩) ?h24
      case w24 => kernel_rfl
      case y24 =>
        intro W hf
        obtain hf1 := hf
        unfold yieldsAt
        go_simp
        all_goals first | rfl | exact ⟨rfl, rfl⟩
      simp only [List.getElem_toArray, List.getElem_cons_zero, List.getElem_cons_succ, Act.put, List.setIfInBounds_toArray, List.set_cons_succ, List.set_cons_zero]
      refine wpAnyC_take (i := 5) (v := ?v25) rfl (by kernel_rfl) (by kernel_rfl) (by kernel_rfl) (fun _ _ _ h => h) (.inl ⟨?w25, ?y25⟩) ?h25
      case w25 => kernel_rfl
      case y25 =>
        intro W hf
        obtain hf1 := hf
        unfold yieldsAt
        go_simp
        all_goals first | rfl | exact ⟨rfl, rfl⟩
      simp only [List.getElem_toArray, List.getElem_cons_zero, List.getElem_cons_succ, Act.put, List.setIfInBounds_toArray, List.set_cons_succ, List.set_cons_zero]
      refine wpAnyC_take (i := 6) (v := ?v26) rfl (by kernel_rfl) (by kernel_rfl) (by kernel_rfl) (fun _ _ _ h => h) (.inl ⟨?w26, ?y26⟩) ?h26
      case w26 => kernel_rfl
      case y26 =>
        intro W hf
        obtain hf1 := hf
        unfold yieldsAt
        go_simp
        all_goals first | rfl | exact ⟨rfl, rfl⟩
      simp only [List.getElem_toArray, List.getElem_cons_zero, List.getElem_cons_succ, Act.put, List.setIfInBounds_toArray, List.set_cons_succ, List.set_cons_zero]
      refine wpAnyC_one (i := 3) rfl (by kernel_rfl) y8 rfl ?_
      intro K hK
      refine wp_call_any ?hrun27 HK1.out ?hK27
      case hrun27 => go_simp
      rintro e w4 ⟨m, rfl, hs⟩
      have x8 := (hs.blk 4 rfl).cell 8
      simp only [List.getElem?_toArray, List.getElem?_cons_zero, List.getElem?_cons_succ] at x8
      have HK2 := Lib.hid (KNew hs 1 rfl HGR.out.size (by omega) mk (by omega))
      clear hs HK1
      refine ⟨_, rfl, hK _ _ ?_⟩
      simp only [List.getElem_toArray, List.getElem_cons_zero, List.getElem_cons_succ, Act.put, List.setIfInBounds_toArray, List.set_cons_succ, List.set_cons_zero]
      refine wpAnyC_one (i := 7) rfl (by kernel_rfl) x8 rfl ?_
      intro K hK
      refine wp_call_any ?hrun28 HK2.out ?hK28
      case hrun28 => go_simp
      rintro e w5 ⟨o, rfl, hs⟩
      have v8 := (hs.blk 5 rfl).cell 8
      simp only [List.getElem?_toArray, List.getElem?_cons_zero, List.getElem?_cons_succ] at v8
      have HS5 := Lib.hid (show Sep w w5 (markR o a 2049 (Col.white) :: markR m a 2049 (Col.white) :: arenaR a A :: rowR 34 1 (.slice AL n0 capl) n0 (nums rs) :: adjR Tryz.prog 34 34 jb (ptsOf fs) :: blkR TC 50 #[.int .i64 (e0 % 4), .bool bl, .int .i64 cp, .int .i64 ct, .int .i64 cr, .int .i64 cs, .int .i64 cg, .int .i64 cf, .int .i64 mk, .int .i64 lg, .int .i64 bu] :: blkR (T + 1) 30 #[.slice A0 n0 c0, .slice A1 n1 c1] :: blkR T 47 #[.int .u8 e0, .int .u8 e1, .int .u8 e2, .int .u8 e3, .int .u8 e4, .int .u8 e5] :: []) from hs)
      clear hs HK2
      refine ⟨_, rfl, hK _ _ ?_⟩
      simp only [List.getElem_toArray, List.getElem_cons_zero, List.getElem_cons_succ, Act.put, List.setIfInBounds_toArray, List.set_cons_succ, List.set_cons_zero]
      refine wpAnyC_take (i := 8) (v := ?v29) rfl (by kernel_rfl) (by kernel_rfl) (by kernel_rfl) (fun _ _ _ h => h) (.inl ⟨?w29, ?y29⟩) ?h29
      case w29 => kernel_rfl
      case y29 =>
        intro W hf
        obtain hf1 := hf
        unfold yieldsAt
        go_simp
        all_goals first | rfl | exact ⟨rfl, rfl⟩
      simp only [List.getElem_toArray, List.getElem_cons_zero, List.getElem_cons_succ, Act.put, List.setIfInBounds_toArray, List.set_cons_succ, List.set_cons_zero]
      refine wpAnyC_take (i := 9) (v := ?v30) rfl (by kernel_rfl) (by kernel_rfl) (by kernel_rfl) (fun _ _ _ h => h) (.inl ⟨?w30, ?y30⟩) ?h30
      case w30 => kernel_rfl
      case y30 =>
        intro W hf
        obtain hf1 := hf
        unfold yieldsAt
        go_simp
        all_goals first | rfl | exact ⟨rfl, rfl⟩
      simp only [List.getElem_toArray, List.getElem_cons_zero, List.getElem_cons_succ, Act.put, List.setIfInBounds_toArray, List.set_cons_succ, List.set_cons_zero]
      refine wpAnyC_done (by kernel_rfl) v8 ?_ _
      try simp only [List.getElem_toArray, List.getElem_cons_zero, List.getElem_cons_succ, Act.put, List.setIfInBounds_toArray, List.set_cons_succ, List.set_cons_zero]
      clear y8 x8 v8
      have hs5 := HS5.out
      have z0 := (hs5.blk 5 rfl).cell 0
      have z1 := (hs5.blk 5 rfl).cell 1
      have z2 := (hs5.blk 5 rfl).cell 2
      have z3 := (hs5.blk 5 rfl).cell 3
      have z4 := (hs5.blk 5 rfl).cell 4
      have z5 := (hs5.blk 5 rfl).cell 5
      have z6 := (hs5.blk 5 rfl).cell 6
      have z7 := (hs5.blk 5 rfl).cell 7
      have z8 := (hs5.blk 5 rfl).cell 8
      have z9 := (hs5.blk 5 rfl).cell 9
      have z10 := (hs5.blk 5 rfl).cell 10
      simp only [List.getElem?_toArray, List.getElem?_cons_zero, List.getElem?_cons_succ] at z0 z1 z2 z3 z4 z5 z6 z7 z8 z9 z10
      have HEN := Lib.hid (ENew hs5 1 2 rfl rfl HGR.out.size (by omega) (e0 % 4) bl cp ct cr cs cg cf mk lg bu (by omega))
      clear hs5 HS5
      go_upto_block 0 with (go_at_call 27; refine (HEN.out).mono ?_; rintro e w6 ⟨b, rfl, hs⟩; clear z0 z1 z2 z3 z4 z5 z6 z7 z8 z9 z10; obtain ⟨E0, hE0⟩ : ∃ E0, Eng.new (e0 % 4) lg = E0 := ⟨_, rfl⟩; have HE0 := Lib.hid hE0; have HID := Lib.hid (show E0.idle from by rw [← hE0]; exact Eng.new_idle _ _); rw [hE0] at hs ⊢; unfold engV; obtain ⟨et, het⟩ : ∃ et, engT E0 = et := ⟨_, rfl⟩; have HEV := Lib.hid het; rw [het]; have z0 := (hs.blk 6 rfl).cell 0; have z9 := (hs.blk 6 rfl).cell 9; simp only [List.getElem?_toArray, List.getElem?_cons_zero, List.getElem?_cons_succ] at z0 z9; have HS6 := Lib.hid (show Sep w w6 (engR b m a A.n 2049 (E0) :: markR o a 2049 (Col.white) :: markR m a 2049 (Col.white) :: arenaR a A :: rowR 34 1 (.slice AL n0 capl) n0 (nums rs) :: adjR Tryz.prog 34 34 jb (ptsOf fs) :: blkR TC 50 #[.int .i64 (e0 % 4), .bool bl, .int .i64 cp, .int .i64 ct, .int .i64 cr, .int .i64 cs, .int .i64 cg, .int .i64 cf, .int .i64 mk, .int .i64 lg, .int .i64 bu] :: blkR (T + 1) 30 #[.slice A0 n0 c0, .slice A1 n1 c1] :: blkR T 47 #[.int .u8 e0, .int .u8 e1, .int .u8 e2, .int .u8 e3, .int .u8 e4, .int .u8 e5] :: []) from hs); clear hs hE0 het HEN)
      go_cut [14] from 57 to 76 (fun ov wc => ∃ q2, ov = .iface et (.pointer (some ⟨q2, 0, none⟩)) ∧ Sep w wc (engR q2 o a A.n 2049 (E0) :: engR b m a A.n 2049 (E0) :: markR o a 2049 (Col.white) :: markR m a 2049 (Col.white) :: arenaR a A :: rowR 34 1 (.slice AL n0 capl) n0 (nums rs) :: adjR Tryz.prog 34 34 jb (ptsOf fs) :: blkR TC 50 #[.int .i64 (e0 % 4), .bool bl, .int .i64 cp, .int .i64 ct, .int .i64 cr, .int .i64 cs, .int .i64 cg, .int .i64 cf, .int .i64 mk, .int .i64 lg, .int .i64 bu] :: blkR (T + 1) 30 #[.slice A0 n0 c0, .slice A1 n1 c1] :: blkR T 47 #[.int .u8 e0, .int .u8 e1, .int .u8 e2, .int .u8 e3, .int .u8 e4, .int .u8 e5] :: []))
      case first =>
        rcases (show e0 % 4 = 0 ∨ e0 % 4 = 1 ∨ e0 % 4 = 2 ∨ e0 % 4 = 3 by omega) with hq | hq | hq | hq
        · have HQ := Lib.hid hq
          have hq0b : ((e0 % 4) == (0 : Int)) = true := by simp; omega
          have hq0d : decide (e0 % 4 = (0 : Int)) = true := decide_eq_true (by omega)
          have hq1b : ((e0 % 4) == (1 : Int)) = false := by simp; omega
          have hq1d : decide (e0 % 4 = (1 : Int)) = false := decide_eq_false (by omega)
          have hq2b : ((e0 % 4) == (2 : Int)) = false := by simp; omega
          have hq2d : decide (e0 % 4 = (2 : Int)) = false := decide_eq_false (by omega)
          clear hq
          have HNW := Lib.hid (BNew HS6.out 1 3 rfl rfl)
          go_wp2_with (go_at_call 14; refine (HNW.out).mono ?_; rintro e w7 ⟨q2, rfl, hs⟩; have HS7 := Lib.hid (show Sep w w7 (steeleR q2 o a A.n (fun _ => false) :: engR b m a A.n 2049 (E0) :: markR o a 2049 (Col.white) :: markR m a 2049 (Col.white) :: arenaR a A :: rowR 34 1 (.slice AL n0 capl) n0 (nums rs) :: adjR Tryz.prog 34 34 jb (ptsOf fs) :: blkR TC 50 #[.int .i64 (e0 % 4), .bool bl, .int .i64 cp, .int .i64 ct, .int .i64 cr, .int .i64 cs, .int .i64 cg, .int .i64 cf, .int .i64 mk, .int .i64 lg, .int .i64 bu] :: blkR (T + 1) 30 #[.slice A0 n0 c0, .slice A1 n1 c1] :: blkR T 47 #[.int .u8 e0, .int .u8 e1, .int .u8 e2, .int .u8 e3, .int .u8 e4, .int .u8 e5] :: []) from hs); clear hs HNW)
          go_meet
          case rel =>
            have hE : E0 = .st (fun _ => false) := by rw [← HE0.out, HQ.out]; rfl
            exact ⟨q2, by rw [← HEV.out, hE]; rfl, by rw [hE]; have h7 := HS7.out; rw [hE] at h7; exact h7⟩
        · have HQ := Lib.hid hq
          have hq0b : ((e0 % 4) == (0 : Int)) = false := by simp; omega
          have hq0d : decide (e0 % 4 = (0 : Int)) = false := decide_eq_false (by omega)
          have hq1b : ((e0 % 4) == (1 : Int)) = true := by simp; omega
          have hq1d : decide (e0 % 4 = (1 : Int)) = true := decide_eq_true (by omega)
          have hq2b : ((e0 % 4) == (2 : Int)) = false := by simp; omega
          have hq2d : decide (e0 % 4 = (2 : Int)) = false := decide_eq_false (by omega)
          clear hq
          have HNW := Lib.hid (DNew HS6.out o)
          go_wp2_with (go_at_call 37; refine (HNW.out).mono ?_; rintro e w7 ⟨q2, rfl, hs⟩; have HS7 := Lib.hid (show Sep w w7 (dijR q2 o :: engR b m a A.n 2049 (E0) :: markR o a 2049 (Col.white) :: markR m a 2049 (Col.white) :: arenaR a A :: rowR 34 1 (.slice AL n0 capl) n0 (nums rs) :: adjR Tryz.prog 34 34 jb (ptsOf fs) :: blkR TC 50 #[.int .i64 (e0 % 4), .bool bl, .int .i64 cp, .int .i64 ct, .int .i64 cr, .int .i64 cs, .int .i64 cg, .int .i64 cf, .int .i64 mk, .int .i64 lg, .int .i64 bu] :: blkR (T + 1) 30 #[.slice A0 n0 c0, .slice A1 n1 c1] :: blkR T 47 #[.int .u8 e0, .int .u8 e1, .int .u8 e2, .int .u8 e3, .int .u8 e4, .int .u8 e5] :: []) from hs); clear hs HNW)
          go_meet
          case rel =>
            have hE : E0 = .dj := by rw [← HE0.out, HQ.out]; rfl
            exact ⟨q2, by rw [← HEV.out, hE]; rfl, by rw [hE]; have h7 := HS7.out; rw [hE] at h7; exact h7⟩
        · have HQ := Lib.hid hq
          have hq0b : ((e0 % 4) == (0 : Int)) = false := by simp; omega
          have hq0d : decide (e0 % 4 = (0 : Int)) = false := decide_eq_false (by omega)
          have hq1b : ((e0 % 4) == (1 : Int)) = false := by simp; omega
          have hq1d : decide (e0 % 4 = (1 : Int)) = false := decide_eq_false (by omega)
          have hq2b : ((e0 % 4) == (2 : Int)) = true := by simp; omega
          have hq2d : decide (e0 % 4 = (2 : Int)) = true := decide_eq_true (by omega)
          clear hq
          have HNW := Lib.hid (YNew HS6.out o)
          go_wp2_with (go_at_call 38; refine (HNW.out).mono ?_; rintro e w7 ⟨q2, rfl, hs⟩; have HS7 := Lib.hid (show Sep w w7 (yuaR q2 o :: engR b m a A.n 2049 (E0) :: markR o a 2049 (Col.white) :: markR m a 2049 (Col.white) :: arenaR a A :: rowR 34 1 (.slice AL n0 capl) n0 (nums rs) :: adjR Tryz.prog 34 34 jb (ptsOf fs) :: blkR TC 50 #[.int .i64 (e0 % 4), .bool bl, .int .i64 cp, .int .i64 ct, .int .i64 cr, .int .i64 cs, .int .i64 cg, .int .i64 cf, .int .i64 mk, .int .i64 lg, .int .i64 bu] :: blkR (T + 1) 30 #[.slice A0 n0 c0, .slice A1 n1 c1] :: blkR T 47 #[.int .u8 e0, .int .u8 e1, .int .u8 e2, .int .u8 e3, .int .u8 e4, .int .u8 e5] :: []) from hs); clear hs HNW)
          go_meet
          case rel =>
            have hE : E0 = .yu := by rw [← HE0.out, HQ.out]; rfl
            exact ⟨q2, by rw [← HEV.out, hE]; rfl, by rw [hE]; have h7 := HS7.out; rw [hE] at h7; exact h7⟩
        · have HQ := Lib.hid hq
          have hq0b : ((e0 % 4) == (0 : Int)) = false := by simp; omega
          have hq0d : decide (e0 % 4 = (0 : Int)) = false := decide_eq_false (by omega)
          have hq1b : ((e0 % 4) == (1 : Int)) = false := by simp; omega
          have hq1d : decide (e0 % 4 = (1 : Int)) = false := decide_eq_false (by omega)
          have hq2b : ((e0 % 4) == (2 : Int)) = false := by simp; omega
          have hq2d : decide (e0 % 4 = (2 : Int)) = false := decide_eq_false (by omega)
          clear hq
          have HNW := Lib.hid (VNew HS6.out 1 3 rfl rfl HGR.out.size (by omega) lg (by omega))
          go_wp2_with (go_at_call 39; refine (HNW.out).mono ?_; rintro e w7 ⟨q2, rfl, hs⟩; have HS7 := Lib.hid (show Sep w w7 (vybR q2 o 2049 (Vy.new lg) :: engR b m a A.n 2049 (E0) :: markR o a 2049 (Col.white) :: markR m a 2049 (Col.white) :: arenaR a A :: rowR 34 1 (.slice AL n0 capl) n0 (nums rs) :: adjR Tryz.prog 34 34 jb (ptsOf fs) :: blkR TC 50 #[.int .i64 (e0 % 4), .bool bl, .int .i64 cp, .int .i64 ct, .int .i64 cr, .int .i64 cs, .int .i64 cg, .int .i64 cf, .int .i64 mk, .int .i64 lg, .int .i64 bu] :: blkR (T + 1) 30 #[.slice A0 n0 c0, .slice A1 n1 c1] :: blkR T 47 #[.int .u8 e0, .int .u8 e1, .int .u8 e2, .int .u8 e3, .int .u8 e4, .int .u8 e5] :: []) from hs); clear hs HNW)
          go_meet
          case rel =>
            have hE : E0 = .vy (Vy.new lg) := by rw [← HE0.out, HQ.out]; rfl
            exact ⟨q2, by rw [← HEV.out, hE]; rfl, by rw [hE]; have h7 := HS7.out; rw [hE] at h7; exact h7⟩
      case rest =>
        obtain ⟨q2, hov, hs⟩ := hcut
        subst hov
        have HS8 := Lib.hid (show Sep w wc (engR q2 o a A.n 2049 (E0) :: engR b m a A.n 2049 (E0) :: markR o a 2049 (Col.white) :: markR m a 2049 (Col.white) :: arenaR a A :: rowR 34 1 (.slice AL n0 capl) n0 (nums rs) :: adjR Tryz.prog 34 34 jb (ptsOf fs) :: []) from (show Sep w wc ([engR q2 o a A.n 2049 (E0), engR b m a A.n 2049 (E0), markR o a 2049 (Col.white), markR m a 2049 (Col.white), arenaR a A, rowR 34 1 (.slice AL n0 capl) n0 (nums rs), adjR Tryz.prog 34 34 jb (ptsOf fs)] ++ [blkR TC 50 #[.int .i64 (e0 % 4), .bool bl, .int .i64 cp, .int .i64 ct, .int .i64 cr, .int .i64 cs, .int .i64 cg, .int .i64 cf, .int .i64 mk, .int .i64 lg, .int .i64 bu], blkR (T + 1) 30 #[.slice A0 n0 c0, .slice A1 n1 c1], blkR T 47 #[.int .u8 e0, .int .u8 e1, .int .u8 e2, .int .u8 e3, .int .u8 e4, .int .u8 e5]]) from hs).left)
        clear hs HS6 z0 z9 HE0
        go_wp2_with fail
        go_loopw [79] (fun iv wr => ∃ (k : Nat) (E : Eng) (C : Col), k ≤ n2 ∧ iv = .int .i64 (k : Int) ∧ engT E = et ∧ E.ok A.n ∧ E.inS (fun x => x ∈ rs) ∧ C.inS (fun x => x ∈ rs) ∧ Sep w wr (engR q2 o a A.n 2049 (E) :: engR b m a A.n 2049 (E) :: markR o a 2049 (C) :: markR m a 2049 (C) :: arenaR a A :: rowR 34 1 (.slice AL n0 capl) n0 (nums rs) :: adjR Tryz.prog 34 34 jb (ptsOf fs) :: [])) (fun iv _ => n2 + 1 - (intOf iv).toNat)
        case atStart => exact ⟨0, E0, _, by omega, rfl, HEV.out, Eng.idle_ok HID.out _, Eng.idle_in HID.out, fun x hx => (by cases hx), HS8.out⟩
        case round =>
          clear HS8
          obtain ⟨k, E, C, hk, rfl, heq, hok, hei, hci, hs⟩ := hrel
          by_cases hlt : k < n2
          · have hltI : (k : Int) < (n2 : Int) := by omega
            have HOK := Lib.hid hok
            have HEQ := Lib.hid heq
            have HEI := Lib.hid hei
            have HCI := Lib.hid hci
            clear hok heq hei hci
            obtain ⟨ab, ao, hA0, hcell⟩ := HZ2.out.at_ hs.own hlt
            subst hA0
            have hc0 := hcell 0 _ rfl
            have hw0 := wf8 (HZ2.out.wf hlt 0 .u8 rfl)
            have hc1 := hcell 1 _ rfl
            have hw1 := wf8 (HZ2.out.wf hlt 1 .u8 rfl)
            have hc2 := hcell 2 _ rfl
            have hw2 := wf8 (HZ2.out.wf hlt 2 .u8 rfl)
            have hc3 := hcell 3 _ rfl
            have hw3 := wf8 (HZ2.out.wf hlt 3 .u8 rfl)
            simp at hc0 hc1 hc2 hc3
            obtain ⟨d0, h0⟩ : ∃ d, D2 k 0 = d := ⟨_, rfl⟩
            rw [h0] at hc0 hw0
            obtain ⟨d1, h1⟩ : ∃ d, D2 k 1 = d := ⟨_, rfl⟩
            rw [h1] at hc1 hw1
            obtain ⟨d2, h2⟩ : ∃ d, D2 k 2 = d := ⟨_, rfl⟩
            rw [h2] at hc2 hw2
            obtain ⟨d3, h3⟩ : ∃ d, D2 k 3 = d := ⟨_, rfl⟩
            rw [h3] at hc3 hw3
            clear hcell h0 h1 h2 h3
            obtain ⟨g, cap', hsl, _, _⟩ := hs.rowSome 5 rfl (by omega)
            simp only [Value.slice.injEq] at hsl
            obtain ⟨rfl, _, rfl⟩ := hsl
            obtain ⟨K1, um, ul⟩ : ∃ K1 : Nat, d0.tmod (n0 : Int) = (K1 : Int) ∧ K1 < n0 := by
              have h1 := Int.emod_nonneg d0 (show (n0 : Int) ≠ 0 by omega)
              have h2 := Int.emod_lt_of_pos d0 (show (0 : Int) < (n0 : Int) by omega)
              refine ⟨(d0 % (n0 : Int)).toNat, ?_, by omega⟩
              rw [Int.tmod_eq_emod_of_nonneg (by omega)]
              omega
            have uI : (K1 : Int) < (n0 : Int) := by omega
            have u0 : (0 : Int) ≤ (K1 : Int) := by omega
            obtain ⟨K2, vm, vl⟩ : ∃ K2 : Nat, d1.tmod (n0 : Int) = (K2 : Int) ∧ K2 < n0 := by
              have h1 := Int.emod_nonneg d1 (show (n0 : Int) ≠ 0 by omega)
              have h2 := Int.emod_lt_of_pos d1 (show (0 : Int) < (n0 : Int) by omega)
              refine ⟨(d1 % (n0 : Int)).toNat, ?_, by omega⟩
              rw [Int.tmod_eq_emod_of_nonneg (by omega)]
              omega
            have vI : (K2 : Int) < (n0 : Int) := by omega
            have v0 : (0 : Int) ≤ (K2 : Int) := by omega
            obtain ⟨K3, tm, tl⟩ : ∃ K3 : Nat, d2.tmod (n0 : Int) = (K3 : Int) ∧ K3 < n0 := by
              have h1 := Int.emod_nonneg d2 (show (n0 : Int) ≠ 0 by omega)
              have h2 := Int.emod_lt_of_pos d2 (show (0 : Int) < (n0 : Int) by omega)
              refine ⟨(d2 % (n0 : Int)).toNat, ?_, by omega⟩
              rw [Int.tmod_eq_emod_of_nonneg (by omega)]
              omega
            have tI : (K3 : Int) < (n0 : Int) := by omega
            have t0 : (0 : Int) ≤ (K3 : Int) := by omega
            obtain ⟨rx, hrx⟩ : ∃ z_, rs[K1]? = some z_ := ⟨_, List.getElem?_eq_getElem (by rw [HRN.out]; exact ul)⟩
            obtain ⟨ry, hry⟩ : ∃ z_, rs[K2]? = some z_ := ⟨_, List.getElem?_eq_getElem (by rw [HRN.out]; exact vl)⟩
            obtain ⟨rz, hrz⟩ : ∃ z_, rs[K3]? = some z_ := ⟨_, List.getElem?_eq_getElem (by rw [HRN.out]; exact tl)⟩
            have HX := Lib.hid hrx
            have HY := Lib.hid hry
            have HZ := Lib.hid hrz
            have HXM := Lib.hid (List.mem_of_getElem? hrx)
            have HYM := Lib.hid (List.mem_of_getElem? hry)
            have HZM := Lib.hid (List.mem_of_getElem? hrz)
            have hx2 := HGR.out.lt (List.mem_of_getElem? hrx)
            have hy2 := HGR.out.lt (List.mem_of_getElem? hry)
            have hz2_ := HGR.out.lt (List.mem_of_getElem? hrz)
            have hand := and8_7 hw3
            obtain ⟨T5, hT5⟩ : ∃ T5, wr.heap.size = T5 := ⟨_, rfl⟩
            have hsb := hs.box #[.int .u8 d0, .int .u8 d1, .int .u8 d2, .int .u8 d3] 64
            rw [hT5] at hsb
            have HSB := Lib.hid hsb
            clear hs hsb hrx hry hrz
            go_wp2
            refine region_sep HSB.out (by kernel_rfl) (by kernel_rfl) ?_
            intro hne0
            have yz0 : ∀ x : SepW w (blkR T5 64 #[.int .u8 d0, .int .u8 d1, .int .u8 d2, .int .u8 d3] :: engR q2 o a A.n 2049 (E) :: engR b m a A.n 2049 (E) :: markR o a 2049 (C) :: markR m a 2049 (C) :: arenaR a A :: rowR 34 1 (.slice (some ⟨g, 0, none⟩) n0 capl) n0 (nums rs) :: adjR Tryz.prog 34 34 jb (ptsOf fs) :: []), x.w'.cell? ⟨T5, 0, none⟩ = some (.int .u8 d0) := fun x => by
              have := (x.h.blk 0 rfl).cell 0
              simpa using this
            have yz1 : ∀ x : SepW w (blkR T5 64 #[.int .u8 d0, .int .u8 d1, .int .u8 d2, .int .u8 d3] :: engR q2 o a A.n 2049 (E) :: engR b m a A.n 2049 (E) :: markR o a 2049 (C) :: markR m a 2049 (C) :: arenaR a A :: rowR 34 1 (.slice (some ⟨g, 0, none⟩) n0 capl) n0 (nums rs) :: adjR Tryz.prog 34 34 jb (ptsOf fs) :: []), x.w'.cell? ⟨T5, 1, none⟩ = some (.int .u8 d1) := fun x => by
              have := (x.h.blk 0 rfl).cell 1
              simpa using this
            have yz2 : ∀ x : SepW w (blkR T5 64 #[.int .u8 d0, .int .u8 d1, .int .u8 d2, .int .u8 d3] :: engR q2 o a A.n 2049 (E) :: engR b m a A.n 2049 (E) :: markR o a 2049 (C) :: markR m a 2049 (C) :: arenaR a A :: rowR 34 1 (.slice (some ⟨g, 0, none⟩) n0 capl) n0 (nums rs) :: adjR Tryz.prog 34 34 jb (ptsOf fs) :: []), x.w'.cell? ⟨T5, 2, none⟩ = some (.int .u8 d2) := fun x => by
              have := (x.h.blk 0 rfl).cell 2
              simpa using this
            have yx : ∀ x : SepW w (blkR T5 64 #[.int .u8 d0, .int .u8 d1, .int .u8 d2, .int .u8 d3] :: engR q2 o a A.n 2049 (E) :: engR b m a A.n 2049 (E) :: markR o a 2049 (C) :: markR m a 2049 (C) :: arenaR a A :: rowR 34 1 (.slice (some ⟨g, 0, none⟩) n0 capl) n0 (nums rs) :: adjR Tryz.prog 34 34 jb (ptsOf fs) :: []), x.w'.cell? ⟨g, K1, none⟩ = some (.int .i64 (rx : Int)) := fun x => x.h.rowCell 6 rfl K1 _ (nums_get _ _ _ HX.out)
            have yy : ∀ x : SepW w (blkR T5 64 #[.int .u8 d0, .int .u8 d1, .int .u8 d2, .int .u8 d3] :: engR q2 o a A.n 2049 (E) :: engR b m a A.n 2049 (E) :: markR o a 2049 (C) :: markR m a 2049 (C) :: arenaR a A :: rowR 34 1 (.slice (some ⟨g, 0, none⟩) n0 capl) n0 (nums rs) :: adjR Tryz.prog 34 34 jb (ptsOf fs) :: []), x.w'.cell? ⟨g, K2, none⟩ = some (.int .i64 (ry : Int)) := fun x => x.h.rowCell 6 rfl K2 _ (nums_get _ _ _ HY.out)
            have yz : ∀ x : SepW w (blkR T5 64 #[.int .u8 d0, .int .u8 d1, .int .u8 d2, .int .u8 d3] :: engR q2 o a A.n 2049 (E) :: engR b m a A.n 2049 (E) :: markR o a 2049 (C) :: markR m a 2049 (C) :: arenaR a A :: rowR 34 1 (.slice (some ⟨g, 0, none⟩) n0 capl) n0 (nums rs) :: adjR Tryz.prog 34 34 jb (ptsOf fs) :: []), x.w'.cell? ⟨g, K3, none⟩ = some (.int .i64 (rz : Int)) := fun x => x.h.rowCell 6 rfl K3 _ (nums_get _ _ _ HZ.out)
            repeat (go_big_quiet_step (fail))
            refine wpQuiet_nil ?_
            rintro wq ⟨⟨wqx, hs⟩, rfl⟩
            clear yz0 yz1 yz2 yx yy yz hne0
            have yk3 := (hs.blk 0 rfl).cell 3
            simp only [List.getElem?_toArray, List.getElem?_cons_zero, List.getElem?_cons_succ] at yk3
            try simp only [hT5]
            clear hT5 HSB
            rcases (show d3 % 8 = 0 ∨ d3 % 8 = 1 ∨ d3 % 8 = 2 ∨ d3 % 8 = 3 ∨ 4 ≤ d3 % 8 by omega) with hd8 | hd8 | hd8 | hd8 | hd8
            · have hc0b : (d3 % 8 == 0) = true := by simp; omega
              have hc0d : decide (d3 % 8 = 0) = true := decide_eq_true (by omega)
              have hc1b : (d3 % 8 == 1) = false := by simp; omega
              have hc1d : decide (d3 % 8 = 1) = false := decide_eq_false (by omega)
              have hc2b : (d3 % 8 == 2) = false := by simp; omega
              have hc2d : decide (d3 % 8 = 2) = false := decide_eq_false (by omega)
              have hc3b : (d3 % 8 == 3) = false := by simp; omega
              have hc3d : decide (d3 % 8 = 3) = false := decide_eq_false (by omega)
              clear hd8
              have HB1 := Lib.hid (KBlacken hs 4 rfl rx hx2.1 hx2.2)
              clear hs
              go_wp2_with (go_at_call 21; first | (refine (HB1.out).mono ?_; rintro e w6 ⟨rfl, hs⟩; have HB2 := Lib.hid (KBlacken (show Sep w w6 (blkR T5 64 #[.int .u8 d0, .int .u8 d1, .int .u8 d2, .int .u8 d3] :: engR q2 o a A.n 2049 (E) :: engR b m a A.n 2049 (E) :: markR o a 2049 (C) :: markR m a 2049 (C.black rx) :: arenaR a A :: rowR 34 1 (.slice (some ⟨g, 0, none⟩) n0 capl) n0 (nums rs) :: adjR Tryz.prog 34 34 jb (ptsOf fs) :: []) from hs) 3 rfl rx hx2.1 hx2.2); clear hs HB1) | (refine (HB2.out).mono ?_; rintro e w6 ⟨rfl, hs⟩; have HS9 := Lib.hid (show Sep w w6 (blkR T5 64 #[.int .u8 d0, .int .u8 d1, .int .u8 d2, .int .u8 d3] :: engR q2 o a A.n 2049 (E) :: engR b m a A.n 2049 (E) :: markR o a 2049 (C.black rx) :: markR m a 2049 (C.black rx) :: arenaR a A :: rowR 34 1 (.slice (some ⟨g, 0, none⟩) n0 capl) n0 (nums rs) :: adjR Tryz.prog 34 34 jb (ptsOf fs) :: []) from hs); clear hs HB2))
              go_roundw
              case rel => exact ⟨k + 1, E, C.black rx, by omega, by go_num, HEQ.out, HOK.out, HEI.out, Col.inS_black HCI.out HXM.out, HS9.out.tail⟩
              case measure => simp [intOf]; omega
            · have hc0b : (d3 % 8 == 0) = false := by simp; omega
              have hc0d : decide (d3 % 8 = 0) = false := decide_eq_false (by omega)
              have hc1b : (d3 % 8 == 1) = true := by simp; omega
              have hc1d : decide (d3 % 8 = 1) = true := decide_eq_true (by omega)
              have hc2b : (d3 % 8 == 2) = false := by simp; omega
              have hc2d : decide (d3 % 8 = 2) = false := decide_eq_false (by omega)
              have hc3b : (d3 % 8 == 3) = false := by simp; omega
              have hc3d : decide (d3 % 8 = 3) = false := decide_eq_false (by omega)
              clear hd8
              have HB1 := Lib.hid (EPre (A := A) E hs 2 4 rfl rfl (rx : Int) ry hy2.2)
              have hmeb : ∀ W : World, (Go.method 298 et (.pointer (some ⟨b, 0, none⟩)) "Pre").run Tryz.prog W = .ok (E.preF, .pointer (some ⟨b, 0, none⟩)) W := fun W => meth_Pre HEQ.out b W
              have hmeq : ∀ W : World, (Go.method 298 et (.pointer (some ⟨q2, 0, none⟩)) "Pre").run Tryz.prog W = .ok (E.preF, .pointer (some ⟨q2, 0, none⟩)) W := fun W => meth_Pre HEQ.out q2 W
              have hcf : ∀ (args : Array Value) (W : World), (callFunc E.preF args).run Tryz.prog W = .ok (.enter E.preF args) W := fun args W => call_Pre E args W
              clear hs
              go_wp2_with (first
                | (refine (HB1.out).mono ?_; rintro e w6 ⟨rfl, hs⟩; clear hmeb; have hs' := (show Sep w w6 (blkR T5 64 #[.int .u8 d0, .int .u8 d1, .int .u8 d2, .int .u8 d3] :: engR q2 o a A.n 2049 (E) :: engR b m a A.n 2049 (E) :: markR o a 2049 (C) :: markR m a 2049 (E.pre ry C) :: arenaR a A :: rowR 34 1 (.slice (some ⟨g, 0, none⟩) n0 capl) n0 (nums rs) :: adjR Tryz.prog 34 34 jb (ptsOf fs) :: []) from hs); have HB2 := Lib.hid (EPre (A := A) E hs' 1 3 rfl rfl (rx : Int) ry hy2.2); clear hs hs' HB1)
                | (refine (HB2.out).mono ?_; rintro e w6 ⟨rfl, hs⟩; clear hmeq hcf; have HS9 := Lib.hid (show Sep w w6 (blkR T5 64 #[.int .u8 d0, .int .u8 d1, .int .u8 d2, .int .u8 d3] :: engR q2 o a A.n 2049 (E) :: engR b m a A.n 2049 (E) :: markR o a 2049 (E.pre ry C) :: markR m a 2049 (E.pre ry C) :: arenaR a A :: rowR 34 1 (.slice (some ⟨g, 0, none⟩) n0 capl) n0 (nums rs) :: adjR Tryz.prog 34 34 jb (ptsOf fs) :: []) from hs); clear hs HB2))
              go_roundw
              case rel => exact ⟨k + 1, E, E.pre ry C, by omega, by go_num, HEQ.out, HOK.out, HEI.out, Eng.pre_in HCI.out (.inr HYM.out), HS9.out.tail⟩
              case measure => simp [intOf]; omega
            · have hc0b : (d3 % 8 == 0) = false := by simp; omega
              have hc0d : decide (d3 % 8 = 0) = false := decide_eq_false (by omega)
              have hc1b : (d3 % 8 == 1) = false := by simp; omega
              have hc1d : decide (d3 % 8 = 1) = false := decide_eq_false (by omega)
              have hc2b : (d3 % 8 == 2) = true := by simp; omega
              have hc2d : decide (d3 % 8 = 2) = true := decide_eq_true (by omega)
              have hc3b : (d3 % 8 == 3) = false := by simp; omega
              have hc3d : decide (d3 % 8 = 3) = false := decide_eq_false (by omega)
              clear hd8
              have HB1 := Lib.hid (ERemark E HGR.out.heap.wf HGR.out.size (by rw [HGR.out.n]; omega) HOK.out (show Sep w wq (engR b m a A.n 2049 (E) :: markR m a 2049 (C) :: arenaR a A :: blkR T5 64 #[.int .u8 d0, .int .u8 d1, .int .u8 d2, .int .u8 d3] :: engR q2 o a A.n 2049 (E) :: markR o a 2049 (C) :: rowR 34 1 (.slice (some ⟨g, 0, none⟩) n0 capl) n0 (nums rs) :: adjR Tryz.prog 34 34 jb (ptsOf fs) :: []) from hs.front 6 [2, 4, 5]))
              have hmeb : ∀ W : World, (Go.method 298 et (.pointer (some ⟨b, 0, none⟩)) "Remark").run Tryz.prog W = .ok (E.remarkF, .pointer (some ⟨b, 0, none⟩)) W := fun W => meth_Remark HEQ.out b W
              have hmeq : ∀ W : World, (Go.method 298 et (.pointer (some ⟨q2, 0, none⟩)) "Remark").run Tryz.prog W = .ok (E.remarkF, .pointer (some ⟨q2, 0, none⟩)) W := fun W => meth_Remark HEQ.out q2 W
              have hcf : ∀ (args : Array Value) (W : World), (callFunc E.remarkF args).run Tryz.prog W = .ok (.enter E.remarkF args) W := fun args W => call_Remark E args W
              clear hs
              go_wp2_with (first
                | (refine (HB1.out).mono ?_; rintro e w6 ⟨rfl, hs⟩; clear hmeb; have hs' := (show Sep w w6 (blkR T5 64 #[.int .u8 d0, .int .u8 d1, .int .u8 d2, .int .u8 d3] :: engR q2 o a A.n 2049 (E) :: engR b m a A.n 2049 ((E.remark A C).1) :: markR o a 2049 (C) :: markR m a 2049 ((E.remark A C).2) :: arenaR a A :: rowR 34 1 (.slice (some ⟨g, 0, none⟩) n0 capl) n0 (nums rs) :: adjR Tryz.prog 34 34 jb (ptsOf fs) :: []) from (show Sep w w6 (engR b m a A.n 2049 ((E.remark A C).1) :: markR m a 2049 ((E.remark A C).2) :: arenaR a A :: blkR T5 64 #[.int .u8 d0, .int .u8 d1, .int .u8 d2, .int .u8 d3] :: engR q2 o a A.n 2049 (E) :: markR o a 2049 (C) :: rowR 34 1 (.slice (some ⟨g, 0, none⟩) n0 capl) n0 (nums rs) :: adjR Tryz.prog 34 34 jb (ptsOf fs) :: []) from hs).front 8 [3, 4, 0, 5, 1, 2, 6, 7]); have HB2 := Lib.hid (ERemark E HGR.out.heap.wf HGR.out.size (by rw [HGR.out.n]; omega) HOK.out (show Sep w w6 (engR q2 o a A.n 2049 (E) :: markR o a 2049 (C) :: arenaR a A :: blkR T5 64 #[.int .u8 d0, .int .u8 d1, .int .u8 d2, .int .u8 d3] :: engR b m a A.n 2049 ((E.remark A C).1) :: markR m a 2049 ((E.remark A C).2) :: rowR 34 1 (.slice (some ⟨g, 0, none⟩) n0 capl) n0 (nums rs) :: adjR Tryz.prog 34 34 jb (ptsOf fs) :: []) from hs'.front 6 [1, 3, 5])); clear hs hs' HB1)
                | (refine (HB2.out).mono ?_; rintro e w6 ⟨rfl, hs⟩; clear hmeq hcf; have HS9 := Lib.hid (show Sep w w6 (blkR T5 64 #[.int .u8 d0, .int .u8 d1, .int .u8 d2, .int .u8 d3] :: engR q2 o a A.n 2049 ((E.remark A C).1) :: engR b m a A.n 2049 ((E.remark A C).1) :: markR o a 2049 ((E.remark A C).2) :: markR m a 2049 ((E.remark A C).2) :: arenaR a A :: rowR 34 1 (.slice (some ⟨g, 0, none⟩) n0 capl) n0 (nums rs) :: adjR Tryz.prog 34 34 jb (ptsOf fs) :: []) from (show Sep w w6 (engR q2 o a A.n 2049 ((E.remark A C).1) :: markR o a 2049 ((E.remark A C).2) :: arenaR a A :: blkR T5 64 #[.int .u8 d0, .int .u8 d1, .int .u8 d2, .int .u8 d3] :: engR b m a A.n 2049 ((E.remark A C).1) :: markR m a 2049 ((E.remark A C).2) :: rowR 34 1 (.slice (some ⟨g, 0, none⟩) n0 capl) n0 (nums rs) :: adjR Tryz.prog 34 34 jb (ptsOf fs) :: []) from hs).front 8 [3, 0, 4, 1, 5, 2, 6, 7]); clear hs HB2))
              go_roundw
              case rel => exact ⟨k + 1, (E.remark A C).1, (E.remark A C).2, by omega, by go_num, ((Eng.remark_T E A C).trans HEQ.out), Eng.remark_ok E A C HOK.out, (Eng.remark_in HCI.out HEI.out).1, (Eng.remark_in HCI.out HEI.out).2, HS9.out.tail⟩
              case measure => simp [intOf]; omega
            · have hc0b : (d3 % 8 == 0) = false := by simp; omega
              have hc0d : decide (d3 % 8 = 0) = false := decide_eq_false (by omega)
              have hc1b : (d3 % 8 == 1) = false := by simp; omega
              have hc1d : decide (d3 % 8 = 1) = false := decide_eq_false (by omega)
              have hc2b : (d3 % 8 == 2) = false := by simp; omega
              have hc2d : decide (d3 % 8 = 2) = false := decide_eq_false (by omega)
              have hc3b : (d3 % 8 == 3) = true := by simp; omega
              have hc3d : decide (d3 % 8 = 3) = true := decide_eq_true (by omega)
              clear hd8
              have HB1 := Lib.hid (EReset (n := 2049) (a := a) (A := A) E hs 2 rfl (by rw [HGR.out.n]; omega) (by omega))
              have hmeb : ∀ W : World, (Go.method 298 et (.pointer (some ⟨b, 0, none⟩)) "Reset").run Tryz.prog W = .ok (E.resetF, .pointer (some ⟨b, 0, none⟩)) W := fun W => meth_Reset HEQ.out b W
              have hmeq : ∀ W : World, (Go.method 298 et (.pointer (some ⟨q2, 0, none⟩)) "Reset").run Tryz.prog W = .ok (E.resetF, .pointer (some ⟨q2, 0, none⟩)) W := fun W => meth_Reset HEQ.out q2 W
              have hcf : ∀ (args : Array Value) (W : World), (callFunc E.resetF args).run Tryz.prog W = .ok (.enter E.resetF args) W := fun args W => call_Reset E args W
              clear hs
              go_wp2_with (first
                | (refine (HB1.out).mono ?_; rintro e w6 ⟨rfl, hs⟩; clear hmeb; have hs' := (show Sep w w6 (blkR T5 64 #[.int .u8 d0, .int .u8 d1, .int .u8 d2, .int .u8 d3] :: engR q2 o a A.n 2049 (E) :: engR b m a A.n 2049 (E.reset) :: markR o a 2049 (C) :: markR m a 2049 (C) :: arenaR a A :: rowR 34 1 (.slice (some ⟨g, 0, none⟩) n0 capl) n0 (nums rs) :: adjR Tryz.prog 34 34 jb (ptsOf fs) :: []) from hs); have HB2 := Lib.hid (EReset (n := 2049) (a := a) (A := A) E hs' 1 rfl (by rw [HGR.out.n]; omega) (by omega)); clear hs hs' HB1)
                | (refine (HB2.out).mono ?_; rintro e w6 ⟨rfl, hs⟩; clear hmeq hcf; have HS9 := Lib.hid (show Sep w w6 (blkR T5 64 #[.int .u8 d0, .int .u8 d1, .int .u8 d2, .int .u8 d3] :: engR q2 o a A.n 2049 (E.reset) :: engR b m a A.n 2049 (E.reset) :: markR o a 2049 (C) :: markR m a 2049 (C) :: arenaR a A :: rowR 34 1 (.slice (some ⟨g, 0, none⟩) n0 capl) n0 (nums rs) :: adjR Tryz.prog 34 34 jb (ptsOf fs) :: []) from hs); clear hs HB2))
              go_roundw
              case rel => exact ⟨k + 1, E.reset, C, by omega, by go_num, ((Eng.reset_T E).trans HEQ.out), Eng.reset_ok E _, Eng.reset_in E, HCI.out, HS9.out.tail⟩
              case measure => simp [intOf]; omega
            · have hc0b : (d3 % 8 == 0) = false := by simp; omega
              have hc0d : decide (d3 % 8 = 0) = false := decide_eq_false (by omega)
              have hc1b : (d3 % 8 == 1) = false := by simp; omega
              have hc1d : decide (d3 % 8 = 1) = false := decide_eq_false (by omega)
              have hc2b : (d3 % 8 == 2) = false := by simp; omega
              have hc2d : decide (d3 % 8 = 2) = false := decide_eq_false (by omega)
              have hc3b : (d3 % 8 == 3) = false := by simp; omega
              have hc3d : decide (d3 % 8 = 3) = false := decide_eq_false (by omega)
              clear hd8
              obtain ⟨sb, hsb⟩ : ∃ sb, decide (0 < bits .and .u8 d3 8) = sb := ⟨_, rfl⟩
              obtain ⟨eb, heb⟩ : ∃ eb, decide (0 < bits .and .u8 d3 16) = eb := ⟨_, rfl⟩
              obtain ⟨TW, hTW⟩ : ∃ TW, wq.heap.size = TW := ⟨_, rfl⟩
              have hbw := hs.box #[.int .i64 (rx : Int), .int .i64 (ry : Int), .int .i64 (rz : Int), .bool sb, .bool eb] 41
              rw [hTW] at hbw
              have zw0 := (hbw.blk 0 rfl).cell 0
              have zw1 := (hbw.blk 0 rfl).cell 1
              have zw2 := (hbw.blk 0 rfl).cell 2
              have zw3 := (hbw.blk 0 rfl).cell 3
              have zw4 := (hbw.blk 0 rfl).cell 4
              simp only [List.getElem?_toArray, List.getElem?_cons_zero, List.getElem?_cons_succ] at zw0 zw1 zw2 zw3 zw4
              have HB1 := Lib.hid (EPost (A := A) E hbw 3 5 6 rfl rfl rfl (by decide) (by decide) (by rw [HGR.out.n]; omega) (by omega) rx ry rz sb eb hx2.2 hy2.2 hz2_.2)
              have hmeb : ∀ W : World, (Go.method 298 et (.pointer (some ⟨b, 0, none⟩)) "Post").run Tryz.prog W = .ok (E.postF, .pointer (some ⟨b, 0, none⟩)) W := fun W => meth_Post HEQ.out b W
              have hmeq : ∀ W : World, (Go.method 298 et (.pointer (some ⟨q2, 0, none⟩)) "Post").run Tryz.prog W = .ok (E.postF, .pointer (some ⟨q2, 0, none⟩)) W := fun W => meth_Post HEQ.out q2 W
              have hcf : ∀ (args : Array Value) (W : World), (callFunc E.postF args).run Tryz.prog W = .ok (.enter E.postF args) W := fun args W => call_Post E args W
              clear hs hbw
              go_wp2_with (first
                | (refine (HB1.out).mono ?_; rintro e w6 ⟨rfl, hs⟩; clear hmeb; have hs' := (show Sep w w6 (blkR TW 41 #[.int .i64 (rx : Int), .int .i64 (ry : Int), .int .i64 (rz : Int), .bool sb, .bool eb] :: blkR T5 64 #[.int .u8 d0, .int .u8 d1, .int .u8 d2, .int .u8 d3] :: engR q2 o a A.n 2049 (E) :: engR b m a A.n 2049 ((E.post A rx ry rz sb eb C).1) :: markR o a 2049 (C) :: markR m a 2049 ((E.post A rx ry rz sb eb C).2) :: arenaR a A :: rowR 34 1 (.slice (some ⟨g, 0, none⟩) n0 capl) n0 (nums rs) :: adjR Tryz.prog 34 34 jb (ptsOf fs) :: []) from hs); clear zw0 zw1 zw2 zw3 zw4; have zw0 := (hs'.blk 0 rfl).cell 0; have zw1 := (hs'.blk 0 rfl).cell 1; have zw2 := (hs'.blk 0 rfl).cell 2; have zw3 := (hs'.blk 0 rfl).cell 3; have zw4 := (hs'.blk 0 rfl).cell 4; simp only [List.getElem?_toArray, List.getElem?_cons_zero, List.getElem?_cons_succ] at zw0 zw1 zw2 zw3 zw4; have HB2 := Lib.hid (EPost (A := A) E hs' 2 4 6 rfl rfl rfl (by decide) (by decide) (by rw [HGR.out.n]; omega) (by omega) rx ry rz sb eb hx2.2 hy2.2 hz2_.2); clear hs hs' HB1)
                | (refine (HB2.out).mono ?_; rintro e w6 ⟨rfl, hs⟩; clear hmeq hcf; clear zw0 zw1 zw2 zw3 zw4; have HS9 := Lib.hid (show Sep w w6 (blkR TW 41 #[.int .i64 (rx : Int), .int .i64 (ry : Int), .int .i64 (rz : Int), .bool sb, .bool eb] :: blkR T5 64 #[.int .u8 d0, .int .u8 d1, .int .u8 d2, .int .u8 d3] :: engR q2 o a A.n 2049 ((E.post A rx ry rz sb eb C).1) :: engR b m a A.n 2049 ((E.post A rx ry rz sb eb C).1) :: markR o a 2049 ((E.post A rx ry rz sb eb C).2) :: markR m a 2049 ((E.post A rx ry rz sb eb C).2) :: arenaR a A :: rowR 34 1 (.slice (some ⟨g, 0, none⟩) n0 capl) n0 (nums rs) :: adjR Tryz.prog 34 34 jb (ptsOf fs) :: []) from hs); clear hs HB2))
              go_roundw
              case rel => exact ⟨k + 1, (E.post A rx ry rz sb eb C).1, (E.post A rx ry rz sb eb C).2, by omega, by go_num, ((Eng.post_T E A rx ry rz sb eb C).trans HEQ.out), Eng.post_ok E rfl HOK.out rx ry rz sb eb, (Eng.post_in HCI.out HEI.out (.inr HYM.out) (.inr HZM.out)).1, (Eng.post_in HCI.out HEI.out (.inr HYM.out) (.inr HZM.out)).2, HS9.out.tail.tail⟩
              case measure => simp [intOf]; omega
          · obtain rfl : n2 = k := by omega
            have HOK := Lib.hid hok
            have HEQ := Lib.hid heq
            have HEI := Lib.hid hei
            have HCI := Lib.hid hci
            clear hok heq hei hci
            obtain ⟨g, cap', hsl, _, _⟩ := hs.rowSome 5 rfl (by omega)
            simp only [Value.slice.injEq] at hsl
            obtain ⟨rfl, _, rfl⟩ := hsl
            go_wp2_with fail
            obtain ⟨wd, hwd⟩ : ∃ wd, wr.drew = wd := ⟨_, rfl⟩
            have hd := hs.drew
            rw [hwd] at hd
            have HFT := Lib.hid (mark_fit hd 3 rfl)
            have HFI := Lib.hid (show ∀ z, (E.fin A (rs.take 1) C).mz z = true → z ∈ rs from Eng.fin_in HCI.out HEI.out (fun x hx => List.mem_of_mem_take hx))
            have HSD := Lib.hid hd
            have hro : Tryz.prog.follows .mixedOrders = true := by kernel_rfl
            have hmf : ∀ (fn : Fn) (first cap : Array Value) (w : World), (Instr.makeFunc fn first cap).run Tryz.prog w = .ok (.func fn first cap) w := fun _ _ _ _ => rfl
            have hc1 : (1 : Int) ≤ (capl : Int) := by omega
            clear hd hs
            refine calmP ?_
            refine wp_region_float (fun _ => True) hro ?_
            rw [hwd]
            clear hwd
            refine wpAnyC_take (i := 0) (v := ?v1) rfl (by kernel_rfl) (by kernel_rfl) (by kernel_rfl) (fun _ _ _ h => h) (.inl ⟨?w1, ?y1⟩) ?h1
            case w1 => kernel_rfl
            case y1 =>
              intro W hf
              obtain _ := hf
              unfold yieldsAt
              go_simp
              all_goals first | rfl | exact ⟨rfl, rfl⟩
            simp only [List.getElem_toArray, List.getElem_cons_zero, List.getElem_cons_succ, Act.put, List.setIfInBounds_toArray, List.set_cons_succ, List.set_cons_zero]
            refine wpAnyC_take (i := 2) (v := ?v2) rfl (by kernel_rfl) (by kernel_rfl) (by kernel_rfl) (fun _ _ _ h => h) (.inl ⟨?w2, ?y2⟩) ?h2
            case w2 => kernel_rfl
            case y2 =>
              intro W hf
              obtain _ := hf
              unfold yieldsAt
              go_simp
              all_goals first | rfl | exact ⟨rfl, rfl⟩
            simp only [List.getElem_toArray, List.getElem_cons_zero, List.getElem_cons_succ, Act.put, List.setIfInBounds_toArray, List.set_cons_succ, List.set_cons_zero]
            refine wpAnyC_one (i := 1) rfl (by kernel_rfl) trivial rfl ?_
            intro K hK
            refine wp_call_any ?hrun3 (ERescans _ b E) ?hK3
            case hrun3 => refine exec_Rescans (E := E) (b := b) _ _ rfl ?_; exact engV_is HEQ.out b
            rintro e w9 ⟨rfl, rfl⟩

            refine ⟨_, rfl, hK _ _ ?_⟩
            simp only [List.getElem_toArray, List.getElem_cons_zero, List.getElem_cons_succ, Act.put, List.setIfInBounds_toArray, List.set_cons_succ, List.set_cons_zero]
            refine wpAnyC_one (i := 3) rfl (by kernel_rfl) trivial rfl ?_
            intro K hK
            refine wp_call_any ?hrun4 (ERescans _ q2 E) ?hK4
            case hrun4 => refine exec_Rescans (E := E) (b := q2) _ _ rfl ?_; exact engV_is HEQ.out q2
            rintro e w9 ⟨rfl, rfl⟩

            refine ⟨_, rfl, hK _ _ ?_⟩
            simp only [List.getElem_toArray, List.getElem_cons_zero, List.getElem_cons_succ, Act.put, List.setIfInBounds_toArray, List.set_cons_succ, List.set_cons_zero]
            refine wpAnyC_take (i := 4) (v := .bool false) rfl (by kernel_rfl) (by kernel_rfl) (by kernel_rfl) (fun _ _ _ h => h) (.inl ⟨?w5, ?y5⟩) ?h5
            case w5 => kernel_rfl
            case y5 =>
              intro W hf
              unfold yieldsAt
              go_simp
              all_goals first | rfl | exact ⟨rfl, rfl⟩ | (rw [IntKind.wrap_i64]; omega) | (trace_state; sorry)
            simp only [List.getElem_toArray, List.getElem_cons_zero, List.getElem_cons_succ, Act.put, List.setIfInBounds_toArray, List.set_cons_succ, List.set_cons_zero]
            refine wpAnyC_take (i := 5) (v := .bool false) rfl (by kernel_rfl) (by kernel_rfl) (by kernel_rfl) (fun _ _ _ h => h) (.inl ⟨?w6, ?y6⟩) ?h6
            case w6 => kernel_rfl
            case y6 =>
              intro W hf
              unfold yieldsAt
              go_simp
              all_goals first | rfl | exact ⟨rfl, rfl⟩ | (rw [IntKind.wrap_i64]; omega) | (trace_state; sorry)
            simp only [List.getElem_toArray, List.getElem_cons_zero, List.getElem_cons_succ, Act.put, List.setIfInBounds_toArray, List.set_cons_succ, List.set_cons_zero]
            refine wpAnyC_take (i := 6) (v := ?v7) rfl (by kernel_rfl) (by kernel_rfl) (by kernel_rfl) (fun _ _ _ h => h) (.inl ⟨?w7, ?y7⟩) ?h7
            case w7 => kernel_rfl
            case y7 =>
              intro W hf
              obtain _ := hf
              unfold yieldsAt
              go_simp
              all_goals first | rfl | exact ⟨rfl, rfl⟩
            simp only [List.getElem_toArray, List.getElem_cons_zero, List.getElem_cons_succ, Act.put, List.setIfInBounds_toArray, List.set_cons_succ, List.set_cons_zero]
            refine wpAnyC_take (i := 7) (v := ?v8) rfl (by kernel_rfl) (by kernel_rfl) (by kernel_rfl) (fun _ _ _ h => h) (.inl ⟨?w8, ?y8⟩) ?h8
            case w8 => kernel_rfl
            case y8 =>
              intro W hf
              obtain _ := hf
              unfold yieldsAt
              go_simp
              all_goals first | rfl | exact ⟨rfl, rfl⟩
            simp only [List.getElem_toArray, List.getElem_cons_zero, List.getElem_cons_succ, Act.put, List.setIfInBounds_toArray, List.set_cons_succ, List.set_cons_zero]
            refine wpAnyC_take (i := 8) (v := ?v9) rfl (by kernel_rfl) (by kernel_rfl) (by kernel_rfl) (fun _ _ _ h => h) (.inl ⟨?w9, ?y9⟩) ?h9
            case w9 => kernel_rfl
            case y9 =>
              intro W hf
              obtain _ := hf
              unfold yieldsAt
              go_simp
              all_goals first | rfl | exact ⟨rfl, rfl⟩
            simp only [List.getElem_toArray, List.getElem_cons_zero, List.getElem_cons_succ, Act.put, List.setIfInBounds_toArray, List.set_cons_succ, List.set_cons_zero]
            refine wpAnyC_take (i := 9) (v := ?v10) rfl (by kernel_rfl) (by kernel_rfl) (by kernel_rfl) (fun _ _ _ h => h) (.inl ⟨?w10, ?y10⟩) ?h10
            case w10 => kernel_rfl
            case y10 =>
              intro W hf
              obtain _ := hf
              unfold yieldsAt
              go_simp
              all_goals first | rfl | exact ⟨rfl, rfl⟩
            simp only [List.getElem_toArray, List.getElem_cons_zero, List.getElem_cons_succ, Act.put, List.setIfInBounds_toArray, List.set_cons_succ, List.set_cons_zero]
            refine wpAnyC_take (i := 12) (v := ?v11) rfl (by kernel_rfl) (by kernel_rfl) (by kernel_rfl) (fun _ _ _ h => h) (.inl ⟨?w11, ?y11⟩) ?h11
            case w11 => kernel_rfl
            case y11 =>
              intro W hf
              obtain _ := hf
              unfold yieldsAt
              go_simp
              all_goals first | rfl | exact ⟨rfl, rfl⟩
            simp only [List.getElem_toArray, List.getElem_cons_zero, List.getElem_cons_succ, Act.put, List.setIfInBounds_toArray, List.set_cons_succ, List.set_cons_zero]
            refine wpAnyC_take (i := 13) (v := ?v12) rfl (by kernel_rfl) (by kernel_rfl) (by kernel_rfl) (fun _ _ _ h => h) (.inl ⟨?w12, ?y12⟩) ?h12
            case w12 => kernel_rfl
            case y12 =>
              intro W hf
              obtain _ := hf
              unfold yieldsAt
              go_simp
              all_goals first | rfl | exact ⟨rfl, rfl⟩
            simp only [List.getElem_toArray, List.getElem_cons_zero, List.getElem_cons_succ, Act.put, List.setIfInBounds_toArray, List.set_cons_succ, List.set_cons_zero]
            refine wpAnyC_take (i := 14) (v := ?v13) rfl (by kernel_rfl) (by kernel_rfl) (by kernel_rfl) (fun _ _ _ h => h) (.inl ⟨?w13, ?y13⟩) ?h13
            case w13 => kernel_rfl
            case y13 =>
              intro W hf
              obtain _ := hf
              unfold yieldsAt
              go_simp
              all_goals first | rfl | exact ⟨rfl, rfl⟩
            simp only [List.getElem_toArray, List.getElem_cons_zero, List.getElem_cons_succ, Act.put, List.setIfInBounds_toArray, List.set_cons_succ, List.set_cons_zero]
            refine wpAnyC_take (i := 15) (v := ?v14) rfl (by kernel_rfl) (by kernel_rfl) (by kernel_rfl) (fun _ _ _ h => h) (.inl ⟨?w14, ?y14⟩) ?h14
            case w14 => kernel_rfl
            case y14 =>
              intro W hf
              obtain _ := hf
              unfold yieldsAt
              go_simp
              all_goals first | rfl | exact ⟨rfl, rfl⟩
            simp only [List.getElem_toArray, List.getElem_cons_zero, List.getElem_cons_succ, Act.put, List.setIfInBounds_toArray, List.set_cons_succ, List.set_cons_zero]
            refine wpAnyC_one (i := 10) rfl (by kernel_rfl) trivial rfl ?_
            intro K hK
            refine wp_call_any ?hrun15 (RRoots HSD.out (some ⟨g, 0, none⟩) 1 capl) ?hK15
            case hrun15 => go_simp
            rintro e w9 ⟨B, rfl, hs⟩
            have hfi := EFinish E (roots_iter B g 1 capl n0 capl rs (by omega) HRN.out (by omega)) enters_roots (fun z hz => HGR.out.lt (List.mem_of_mem_take hz)) HGR.out.heap.wf HGR.out.size (by rw [HGR.out.n]; omega) HOK.out HGR.out.heap HGR.out.nodup HGR.out.ptsIn (by rw [HRN.out]; omega) HFI.out (show Sep w w9 (blkR B 25 #[.slice (some ⟨g, 0, none⟩) 1 capl] :: rowR 34 1 (.slice (some ⟨g, 0, none⟩) n0 capl) n0 (nums rs) :: engR b m a A.n 2049 (E) :: markR m a 2049 (C) :: arenaR a A :: engR q2 o a A.n 2049 (E) :: markR o a 2049 (C) :: adjR Tryz.prog 34 34 jb (ptsOf fs) :: []) from (show Sep w w9 (blkR B 25 #[.slice (some ⟨g, 0, none⟩) 1 capl] :: engR q2 o a A.n 2049 (E) :: engR b m a A.n 2049 (E) :: markR o a 2049 (C) :: markR m a 2049 (C) :: arenaR a A :: rowR 34 1 (.slice (some ⟨g, 0, none⟩) n0 capl) n0 (nums rs) :: adjR Tryz.prog 34 34 jb (ptsOf fs) :: []) from hs).front 7 [0, 6, 2, 4, 5])
            rw [← engV_is HEQ.out b] at hfi
            have HF1 := Lib.hid hfi
            clear hs hfi HSD
            refine ⟨_, rfl, hK _ _ ?_⟩
            simp only [List.getElem_toArray, List.getElem_cons_zero, List.getElem_cons_succ, Act.put, List.setIfInBounds_toArray, List.set_cons_succ, List.set_cons_zero]
            refine wpAnyC_one (i := 11) rfl (by kernel_rfl) trivial rfl ?_
            intro K hK
            refine wp_call_any ?hrun16 HF1.out ?hK16
            case hrun16 => go_simp
            rintro e w10 ⟨dn, C2, rfl, hst, hno, hs⟩
            have HST := Lib.hid hst
            have HNO := Lib.hid hno
            have HRT := Lib.hid (RRoots (show Sep w w10 (blkR B 25 #[.slice (some ⟨g, 0, none⟩) 1 capl] :: rowR 34 1 (.slice (some ⟨g, 0, none⟩) n0 capl) n0 (nums rs) :: engR b m a A.n 2049 ((E.remark A C).1) :: markR m a 2049 (C2) :: arenaR a A :: engR q2 o a A.n 2049 (E) :: markR o a 2049 (C) :: adjR Tryz.prog 34 34 jb (ptsOf fs) :: []) from hs) (some ⟨g, 0, none⟩) 1 capl)
            clear hs hst hno HF1
            refine ⟨_, rfl, hK _ _ ?_⟩
            simp only [List.getElem_toArray, List.getElem_cons_zero, List.getElem_cons_succ, Act.put, List.setIfInBounds_toArray, List.set_cons_succ, List.set_cons_zero]
            refine wpAnyC_one (i := 16) rfl (by kernel_rfl) trivial rfl ?_
            intro K hK
            refine wp_call_any ?hrun17 HRT.out ?hK17
            case hrun17 => go_simp
            rintro e w11 ⟨B2, rfl, hs⟩
            have hfi := EFinish E (roots_iter B2 g 1 capl n0 capl rs (by omega) HRN.out (by omega)) enters_roots (fun z hz => HGR.out.lt (List.mem_of_mem_take hz)) HGR.out.heap.wf HGR.out.size (by rw [HGR.out.n]; omega) HOK.out HGR.out.heap HGR.out.nodup HGR.out.ptsIn (by rw [HRN.out]; omega) HFI.out (show Sep w w11 (blkR B2 25 #[.slice (some ⟨g, 0, none⟩) 1 capl] :: rowR 34 1 (.slice (some ⟨g, 0, none⟩) n0 capl) n0 (nums rs) :: engR q2 o a A.n 2049 (E) :: markR o a 2049 (C) :: arenaR a A :: blkR B 25 #[.slice (some ⟨g, 0, none⟩) 1 capl] :: engR b m a A.n 2049 ((E.remark A C).1) :: markR m a 2049 (C2) :: adjR Tryz.prog 34 34 jb (ptsOf fs) :: []) from (show Sep w w11 (blkR B2 25 #[.slice (some ⟨g, 0, none⟩) 1 capl] :: blkR B 25 #[.slice (some ⟨g, 0, none⟩) 1 capl] :: rowR 34 1 (.slice (some ⟨g, 0, none⟩) n0 capl) n0 (nums rs) :: engR b m a A.n 2049 ((E.remark A C).1) :: markR m a 2049 (C2) :: arenaR a A :: engR q2 o a A.n 2049 (E) :: markR o a 2049 (C) :: adjR Tryz.prog 34 34 jb (ptsOf fs) :: []) from hs).front 8 [0, 2, 6, 7, 5])
            rw [← engV_is HEQ.out q2] at hfi
            have HF2 := Lib.hid hfi
            clear hs hfi HRT
            refine ⟨_, rfl, hK _ _ ?_⟩
            simp only [List.getElem_toArray, List.getElem_cons_zero, List.getElem_cons_succ, Act.put, List.setIfInBounds_toArray, List.set_cons_succ, List.set_cons_zero]
            refine wpAnyC_one (i := 17) rfl (by kernel_rfl) trivial rfl ?_
            intro K hK
            refine wp_call_any ?hrun18 HF2.out ?hK18
            case hrun18 => go_simp
            rintro e w12 ⟨dm, C3, rfl, hst, hno, hs⟩
            obtain ⟨rfl, rfl⟩ := steps_same HGR.out.nodup HGR.out.ptsIn HFI.out (Eng.fin_fit HFT.out) HST.out HNO.out hst hno
            have HS12 := Lib.hid (show Sep w w12 (blkR B2 25 #[.slice (some ⟨g, 0, none⟩) 1 capl] :: rowR 34 1 (.slice (some ⟨g, 0, none⟩) n0 capl) n0 (nums rs) :: engR q2 o a A.n 2049 ((E.remark A C).1) :: markR o a 2049 (C2) :: arenaR a A :: blkR B 25 #[.slice (some ⟨g, 0, none⟩) 1 capl] :: engR b m a A.n 2049 ((E.remark A C).1) :: markR m a 2049 (C2) :: adjR Tryz.prog 34 34 jb (ptsOf fs) :: []) from hs)
            clear hs hst hno HF2
            refine ⟨_, rfl, hK _ _ ?_⟩
            simp only [List.getElem_toArray, List.getElem_cons_zero, List.getElem_cons_succ, Act.put, List.setIfInBounds_toArray, List.set_cons_succ, List.set_cons_zero]
            refine wpAnyC_take (i := 18) (v := .bool false) rfl (by kernel_rfl) (by kernel_rfl) (by kernel_rfl) (fun _ _ _ h => h) (.inl ⟨?w19, ?y19⟩) ?h19
            case w19 => kernel_rfl
            case y19 =>
              intro W hf
              unfold yieldsAt
              go_simp
              all_goals first | rfl | exact ⟨rfl, rfl⟩ | (rw [IntKind.wrap_i64]; omega) | (trace_state; sorry)
            simp only [List.getElem_toArray, List.getElem_cons_zero, List.getElem_cons_succ, Act.put, List.setIfInBounds_toArray, List.set_cons_succ, List.set_cons_zero]
            refine wpAnyC_take (i := 19) (v := .bool false) rfl (by kernel_rfl) (by kernel_rfl) (by kernel_rfl) (fun _ _ _ h => h) (.inl ⟨?w20, ?y20⟩) ?h20
            case w20 => kernel_rfl
            case y20 =>
              intro W hf
              unfold yieldsAt
              go_simp
              all_goals first | rfl | exact ⟨rfl, rfl⟩ | (rw [IntKind.wrap_i64]; omega) | (trace_state; sorry)
            simp only [List.getElem_toArray, List.getElem_cons_zero, List.getElem_cons_succ, Act.put, List.setIfInBounds_toArray, List.set_cons_succ, List.set_cons_zero]
            refine wpAnyC_done (by kernel_rfl) trivial ?_ _
            try simp only [List.getElem_toArray, List.getElem_cons_zero, List.getElem_cons_succ, Act.put, List.setIfInBounds_toArray, List.set_cons_succ, List.set_cons_zero]
            go_wp2_with fail
            go_loopw [184] (fun iv wr => ∃ (k : Nat), k ≤ n0 ∧ iv = .int .i64 (k : Int) ∧ Sep w wr (blkR B2 25 #[.slice (some ⟨g, 0, none⟩) 1 capl] :: rowR 34 1 (.slice (some ⟨g, 0, none⟩) n0 capl) n0 (nums rs) :: engR q2 o a A.n 2049 ((E.remark A C).1) :: markR o a 2049 (C2) :: arenaR a A :: blkR B 25 #[.slice (some ⟨g, 0, none⟩) 1 capl] :: engR b m a A.n 2049 ((E.remark A C).1) :: markR m a 2049 (C2) :: adjR Tryz.prog 34 34 jb (ptsOf fs) :: [])) (fun iv _ => n0 + 1 - (intOf iv).toNat)
            case atStart => exact ⟨0, by omega, rfl, HS12.out⟩
            case round =>
              clear HS12
              obtain ⟨k, hk, rfl, hs⟩ := hrel
              by_cases hlt : k < n0
              · have hltI : (k : Int) < (n0 : Int) := by omega
                obtain ⟨xr, hx⟩ : ∃ z_, rs[k]? = some z_ := ⟨_, List.getElem?_eq_getElem (by rw [HRN.out]; exact hlt)⟩
                have cx := hs.rowCell 1 rfl k _ (nums_get _ _ _ hx)
                have hx2 := HGR.out.lt (List.mem_of_getElem? hx)
                obtain ⟨bm, hbm⟩ : ∃ bb, C2.mz xr = bb := ⟨_, rfl⟩
                obtain ⟨bs, hbs⟩ : ∃ bb, C2.sc xr = bb := ⟨_, rfl⟩
                have HBM := Lib.hid hbm
                have HBS := Lib.hid hbs
                have HK1 := Lib.hid (KMarked hs 7 rfl xr hx2.2)
                clear hs hx hbm hbs
                go_wp2_with (first
                  | (go_at_call 18; first | (refine (HK1.out).mono ?_; rw [HBM.out]; rintro e w7 ⟨rfl, hs⟩; have HK2 := Lib.hid (KMarked hs 3 rfl xr hx2.2); clear hs HK1) | (refine (HK2.out).mono ?_; rw [HBM.out]; rintro e w7 ⟨rfl, hs⟩; have HK3 := Lib.hid (KScanned hs 7 rfl xr hx2.2); clear hs HK2))
                  | (go_at_call 19; first | (refine (HK3.out).mono ?_; rw [HBS.out]; rintro e w7 ⟨rfl, hs⟩; have HK4 := Lib.hid (KScanned hs 3 rfl xr hx2.2); clear hs HK3) | (refine (HK4.out).mono ?_; rw [HBS.out]; rintro e w7 ⟨rfl, hs⟩; have HS9 := Lib.hid hs; clear hs HK4)))
                go_roundw
                case rel => exact ⟨k + 1, by omega, by go_num, HS9.out⟩
                case measure => simp [intOf]; omega
              · obtain rfl : n0 = k := by omega
                have HS7 := Lib.hid hs
                clear hs
                go_wp2_with fail
                go_ret
                exact ⟨by first | rfl | simp, HS7.out.below⟩
  · by_cases hsm : n0 ≤ 40 ∧ n1 ≤ 120
    · have HSD := Lib.hid (show (decide (n0 ≤ 40) && decide (n1 ≤ 120)) = true by rw [decide_eq_true hsm.1, decide_eq_true hsm.2]; rfl)
      have hnlI : (60 : Int) < (n2 : Int) := by
        have : ¬ n2 ≤ 60 := fun h => hsmall ⟨hsm.1, hsm.2, h⟩
        omega
      clear hsm hsmall
      go_wp2_with (first
        | (go_at_call 24; refine (fit16 _).mono ?_; rintro e w1 ⟨rfl, hC⟩; have hs1 := HS0.out.same hC; have p0 := (hs1.blk 0 rfl).cell 0; have p1 := (hs1.blk 0 rfl).cell 1; have q0 := (hs1.blk 1 rfl).cell 0; have q1 := (hs1.blk 1 rfl).cell 1; have q2 := (hs1.blk 1 rfl).cell 2; have q3 := (hs1.blk 1 rfl).cell 3; have q4 := (hs1.blk 1 rfl).cell 4; have q5 := (hs1.blk 1 rfl).cell 5; simp only [List.getElem?_toArray, List.getElem?_cons_zero, List.getElem?_cons_succ] at p0 p1 q0 q1 q2 q3 q4 q5; have HS1 := Lib.hid hs1; clear hC hs1 HS0)
        | (go_at_call 25; refine (Small11 _ A0 n0 c0 A1 n1 c1).mono ?_; rw [HSD.out]; rintro e w2 ⟨rfl, hC⟩; have HS2 := Lib.hid (HS1.out.same hC); clear hC HS1))
      go_ret
      exact ⟨rfl, HS2.out.below⟩
    · have HSD := Lib.hid (show (decide (n0 ≤ 40) && decide (n1 ≤ 120)) = false by
        rw [Bool.and_eq_false_iff]
        by_cases h : n0 ≤ 40
        · exact .inr (decide_eq_false fun h2 => hsm ⟨h, h2⟩)
        · exact .inl (decide_eq_false h))
      clear hsm hsmall
      go_wp2_with (first
        | (go_at_call 24; refine (fit16 _).mono ?_; rintro e w1 ⟨rfl, hC⟩; have hs1 := HS0.out.same hC; have p0 := (hs1.blk 0 rfl).cell 0; have p1 := (hs1.blk 0 rfl).cell 1; have q0 := (hs1.blk 1 rfl).cell 0; have q1 := (hs1.blk 1 rfl).cell 1; have q2 := (hs1.blk 1 rfl).cell 2; have q3 := (hs1.blk 1 rfl).cell 3; have q4 := (hs1.blk 1 rfl).cell 4; have q5 := (hs1.blk 1 rfl).cell 5; simp only [List.getElem?_toArray, List.getElem?_cons_zero, List.getElem?_cons_succ] at p0 p1 q0 q1 q2 q3 q4 q5; have HS1 := Lib.hid hs1; clear hC hs1 HS0)
        | (go_at_call 25; refine (Small11 _ A0 n0 c0 A1 n1 c1).mono ?_; rw [HSD.out]; rintro e w2 ⟨rfl, hC⟩; have HS2 := Lib.hid (HS1.out.same hC); clear hC HS1))
      go_ret
      exact ⟨rfl, HS2.out.below⟩
end Go.Proofs.YtbcabjpafeocgaaGreat
