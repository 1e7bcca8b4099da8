/-
  The contract of layer 4's made. Conditions: as the theorem says.
-/
import Derived.Test.YtapbphbnffggnaaOpen
import Derived.Test.YtapbphbnffggnaaThing
import Derived.Test.YtapbphbnffggnaaBits
import Derived.Test.YtapbphbnffggnaaQuiet
import Derived.StillTailTactics
namespace Go.Proofs.Ytapbphbnffggnaa
set_option linter.unusedVariables false
set_option linter.unusedSimpArgs false
open Go.RowKit Go.Shelf

theorem ptrInfo04 : (Try.prog.info? 66).map (fun i => (i.zero, i.size, i.bytes)) = some (some (.pointer none), 1, 8) := by kernel_rfl

section
variable {w0 w : World} {L : List Res} {a : Nat}
set_option maxRecDepth 100000 in
set_option maxHeartbeats 40000000 in
theorem Made04 (A : Option Addr) (n c : Nat) (D : Nat → Nat → Int) (hz : ArgI w0 A n [.i64, .i64, .i64, .i64] D) (hn : n ≤ 80) (B0 : AR) (hw : B0.Wf) (S : Sep w0 w (arenaR a B0 :: L)) :
    Calls Try.prog 40 #[.pointer (some ⟨a, 0, none⟩), .slice A n c] w fun e w' => ∃ (v : Value) (ts : List Thing) (B : AR), e = .returned (.tuple #[v, .bool true]) ∧ ts.length ≤ n ∧ Like B ts ∧ Sep w0 w' (arenaR a B :: rowR 66 1 v ts.length (ts.map encT) :: thingsR ts :: L) := by
  have HZ := Lib.hid hz
  have HW0 := Lib.hid hw
  have hs := (S.nilRow 66 1).swap
  have hs2 : Sep w0 w (arenaR a B0 :: rowR 66 1 (.slice none 0 0) 0 (([] : List Thing).map encT) :: thingsR ([] : List Thing) :: L) := (hs.perm (List.Perm.refl _)).none_.perm (by
    refine (List.Perm.swap _ _ _).trans (List.Perm.cons _ ?_)
    exact List.Perm.swap _ _ _)
  have HS0 := Lib.hid hs2
  clear hz hw hs hs2 S
  go_enter Try.func40, Try.ntmps40
  go_wp2_with fail
  go_loopw [6, 19] (fun v i wr => ∃ (k : Nat) (ts : List Thing) (B : AR), k ≤ n ∧ i = .int .i64 k ∧ ts.length ≤ k ∧ Like B ts ∧ Sep w0 wr (arenaR a B :: rowR 66 1 v ts.length (ts.map encT) :: thingsR ts :: L)) (fun _ i _ => n + 1 - (intOf i).toNat)
  case atStart => exact ⟨0, [], B0, by omega, rfl, by simp, like_none B0 HW0.out, HS0.out⟩
  case round =>
    clear HS0 HW0
    obtain ⟨k, ts, B, hk, rfl, hlen, hlike, hs⟩ := hrel
    obtain ⟨AA, cap, rfl, hcap, hcm⟩ := hs.rowShape 1 rfl
    unfold maxLen at hcm
    have HLK := Lib.hid hlike
    have hown := hs.own
    by_cases hlt : k < n
    · obtain ⟨ab, ao, rfl, hcell⟩ := HZ.out.at_ hown hlt
      have hc0 := hcell 0 _ rfl
      have hc1 := hcell 1 _ rfl
      have hc2 := hcell 2 _ rfl
      have hc3 := hcell 3 _ rfl
      have hwf := fun j (h : j < 4) => HZ.out.wf hlt j .i64 (by rcases (by omega : j = 0 ∨ j = 1 ∨ j = 2 ∨ j = 3) with rfl | rfl | rfl | rfl <;> rfl)
      simp at hc0 hc1 hc2 hc3
      obtain ⟨d0, h0⟩ : ∃ d, D k 0 = d := ⟨_, rfl⟩
      obtain ⟨d1, h1⟩ : ∃ d, D k 1 = d := ⟨_, rfl⟩
      obtain ⟨d2, h2⟩ : ∃ d, D k 2 = d := ⟨_, rfl⟩
      obtain ⟨d3, h3⟩ : ∃ d, D k 3 = d := ⟨_, rfl⟩
      have hw1 := wf64 (hwf 1 (by omega))
      have hw2 := wf64 (hwf 2 (by omega))
      rw [h0] at hc0
      rw [h1] at hc1 hw1
      rw [h2] at hc2 hw2
      rw [h3] at hc3
      clear hcell hwf h0 h1 h2 h3 hown
      obtain ⟨T, hT⟩ : ∃ T, wr.heap.size = T := ⟨_, rfl⟩
      obtain ⟨Ln, hLn⟩ : ∃ Ln, ts.length = Ln := ⟨_, rfl⟩
      have HLN := Lib.hid hLn
      rw [hLn] at hs hcap hlen ⊢
      have hsb := hs.box #[.int .i64 d0, .int .i64 d1, .int .i64 d2, .int .i64 d3] 102
      rw [hT] at hsb
      have z0 := (hsb.blk 0 rfl).cell 0
      have z1 := (hsb.blk 0 rfl).cell 1
      have z2 := (hsb.blk 0 rfl).cell 2
      have z3 := (hsb.blk 0 rfl).cell 3
      simp only [List.getElem?_toArray, List.getElem?_cons_zero, List.getElem?_cons_succ] at z0 z1 z2 z3
      have HSB := Lib.hid hsb
      have hx3 := and_3 d0
      obtain ⟨k3, hk3⟩ : ∃ k3, d0 % 4 = k3 := ⟨_, rfl⟩
      rw [hk3] at hx3
      have hk30 : 0 ≤ k3 ∧ k3 ≤ 3 := by omega
      clear hs hLn hsb hk3 hlike
      by_cases hnew : k3 = 0 ∨ Ln = 0
      · by_cases e0 : k3 = 0
        · as_aux_lemma =>
          subst e0
          clear hnew
          by_cases hlo : d1 < 0
          · have hc := CNewOut HSB.out (a := a) d1 (.inl hlo)
            rw [if_pos hlo] at hc
            have HC := Lib.hid hc
            clear hc
            go_wp2_with (go_at_call 46; refine (HC.out).mono ?_; rintro e w5 ⟨rfl, hs⟩; have HS6 := Lib.hid hs; clear hs HSB HC)
            go_roundw
            case rel => exact ⟨k + 1, ts, B, by omega, by go_num, by rw [HLN.out]; omega, HLK.out, by rw [HLN.out]; exact HS6.out.tail⟩
            case measure => simp [intOf]; omega
          by_cases hhi : 6 < d1
          · have hc := CNewOut HSB.out (a := a) d1 (.inr hhi)
            rw [if_neg hlo] at hc
            have HC := Lib.hid hc
            clear hc
            go_wp2_with (go_at_call 46; refine (HC.out).mono ?_; rintro e w5 ⟨rfl, hs⟩; have HS6 := Lib.hid hs; clear hs HSB HC)
            go_roundw
            case rel => exact ⟨k + 1, ts, B, by omega, by go_num, by rw [HLN.out]; omega, HLK.out, by rw [HLN.out]; exact HS6.out.tail⟩
            case measure => simp [intOf]; omega
          obtain ⟨m, rfl, hm6⟩ : ∃ m : Nat, d1 = (m : Int) ∧ m ≤ 6 := ⟨d1.toNat, by omega, by omega⟩
          cases hta : B.take (classZ (m : Int)) with
          | none =>
            have HC := Lib.hid (CNewNone HSB.out 1 rfl HLK.out.wf (m : Int) (by omega) (by omega) hta)
            clear hta
            go_wp2_with (go_at_call 46; refine (HC.out).mono ?_; rintro e w5 ⟨rfl, hs⟩; have HS6 := Lib.hid hs; clear hs HSB HC)
            go_roundw
            case rel => exact ⟨k + 1, ts, B, by omega, by go_num, by rw [HLN.out]; omega, HLK.out, by rw [HLN.out]; exact HS6.out.tail⟩
            case measure => simp [intOf]; omega
          | some y =>
            have hany : Calls Try.prog 46 #[.pointer (some ⟨a, 0, none⟩), .int .i64 (m : Int)] (wr.alloc (.cells #[.int .i64 d0, .int .i64 (m : Int), .int .i64 d2, .int .i64 d3] 102)) fun e w' => ∃ (r : Nat) (A' : AR), e = .returned (.tuple #[.int .i64 (r : Int), .int .i64 0]) ∧ Sep w0 w' (blkR T 102 #[.int .i64 d0, .int .i64 (m : Int), .int .i64 d2, .int .i64 d3] :: arenaR a A' :: rowR 66 1 (.slice AA Ln cap) Ln (ts.map encT) :: thingsR ts :: L) ∧ NewIs B m r A' := by
              refine (ONewAny HSB.out 1 rfl HLK.out.wf m hm6).mono ?_
              rintro e w5 (⟨h, _⟩ | h)
              · rw [h] at hta; cases hta
              · exact h
            have HC := Lib.hid hany
            have hmk := mk_refs m (by omega)
            clear hany hta
            go_wp2_with (first
              | (go_at_call 46; refine (HC.out).mono ?_; rintro e w5 ⟨r, B1, rfl, hs, hN⟩; have HN1 := Lib.hid hN; obtain ⟨h1, hh1⟩ : ∃ h1, w5.heap.size = h1 := ⟨_, rfl⟩; have hs2 := (hs.box (fieldCells (List.replicate m 0)) 26).box #[.int .i64 (r : Int), .slice (some ⟨h1, 0, none⟩) m m, .int .i64 0] 69; rw [World.size_alloc, hh1] at hs2; have HS7 := Lib.hid hs2; clear hs hs2 hN HSB HC)
              | (at_builtin; refine wpList_append_sep rfl _ _ 63 rfl 66 (.pointer none) 1 8 Try.underlying63 ptrInfo04 rfl (by decide) HS7.out 4 rfl rfl [.pointer (some ⟨h1 + 1, 0, none⟩)] rfl (by simp [Value.oneCell']) (by simp only [World.size_alloc, hh1]; rfl) (by unfold maxLen; omega) (by omega) ?_; intro g4 cap4 w4 hcap4 hcm4 hs4; have HS8 := Lib.hid hs4; clear hs4))
            obtain ⟨tN, htN⟩ : ∃ tN : Thing, (⟨h1 + 1, h1, r, List.replicate m 0, 0⟩ : Thing) = tN := ⟨_, rfl⟩
            have eN : thingL tN = [blkR (h1 + 1) 69 #[.int .i64 (r : Int), .slice (some ⟨h1, 0, none⟩) m m, .int .i64 0], blkR h1 26 (fieldCells (List.replicate m 0))] := by
              rw [← htN]
              simp [thingL]
            have hq0 : Sep w0 w4 (thingL tN ++ (thingsR ts :: blkR T 102 #[.int .i64 d0, .int .i64 (m : Int), .int .i64 d2, .int .i64 d3] :: arenaR a B1 :: rowR 66 1 (.slice (some ⟨g4, 0, none⟩) (Ln + 1) cap4) (Ln + 1) (ts.map encT ++ [.pointer (some ⟨h1 + 1, 0, none⟩)]) :: L)) := by
              rw [eN]
              exact HS8.out.front 6 [0, 1, 5, 2, 3, 4]
            have hq1 : Sep w0 w4 (arenaR a B1 :: rowR 66 1 (.slice (some ⟨g4, 0, none⟩) (Ln + 1) cap4) (Ln + 1) ((ts ++ [tN]).map encT) :: thingsR (ts ++ [tN]) :: L) := by
              have h2 := (hq0.thingNew tN).swap.tail
              have h3 : Sep w0 w4 (arenaR a B1 :: rowR 66 1 (.slice (some ⟨g4, 0, none⟩) (Ln + 1) cap4) (Ln + 1) (ts.map encT ++ [.pointer (some ⟨h1 + 1, 0, none⟩)]) :: thingsR (ts ++ [tN]) :: L) := h2.front 3 [1, 2, 0]
              have e3 : (ts ++ [tN]).map encT = ts.map encT ++ [.pointer (some ⟨h1 + 1, 0, none⟩)] := by
                rw [← htN]
                simp [encT]
              rw [e3]
              exact h3
            have HQ := Lib.hid hq1
            have HLK2 := Lib.hid (show Like B1 (ts ++ [tN]) by
              have hN := HN1.out
              rw [← htN]
              exact HLK.out.born hN rfl rfl)
            clear hq0 hq1 HS8 hh1 HS7 eN
            have hl2 : (ts ++ [tN]).length = Ln + 1 := by simp [HLN.out]
            have HL2 := Lib.hid hl2
            clear hl2 htN
            go_roundw
            case rel => exact ⟨k + 1, ts ++ [tN], B1, by omega, by go_num, by rw [HL2.out]; omega, HLK2.out, by rw [HL2.out]; exact HQ.out⟩
            case measure => simp [intOf]; omega
        · as_aux_lemma =>
          have hk3b : (k3 == 0) = false := by simpa using e0
          have hL0 : Ln = 0 := hnew.resolve_left e0
          have hL1 : (Ln : Int) = 0 := by omega
          have hL2 : ((Ln : Int) == 0) = true := by simpa using hL1
          have HL0 := Lib.hid hL0
          clear hnew hL0 hL1
          by_cases hlo : d1 < 0
          · have hc := CNewOut HSB.out (a := a) d1 (.inl hlo)
            rw [if_pos hlo] at hc
            have HC := Lib.hid hc
            clear hc
            go_wp2_with (go_at_call 46; refine (HC.out).mono ?_; rintro e w5 ⟨rfl, hs⟩; have HS6 := Lib.hid hs; clear hs HSB HC)
            go_roundw
            case rel => exact ⟨k + 1, ts, B, by omega, by go_num, by rw [HLN.out]; omega, HLK.out, by rw [HLN.out]; exact HS6.out.tail⟩
            case measure => simp [intOf]; omega
          by_cases hhi : 6 < d1
          · have hc := CNewOut HSB.out (a := a) d1 (.inr hhi)
            rw [if_neg hlo] at hc
            have HC := Lib.hid hc
            clear hc
            go_wp2_with (go_at_call 46; refine (HC.out).mono ?_; rintro e w5 ⟨rfl, hs⟩; have HS6 := Lib.hid hs; clear hs HSB HC)
            go_roundw
            case rel => exact ⟨k + 1, ts, B, by omega, by go_num, by rw [HLN.out]; omega, HLK.out, by rw [HLN.out]; exact HS6.out.tail⟩
            case measure => simp [intOf]; omega
          obtain ⟨m, rfl, hm6⟩ : ∃ m : Nat, d1 = (m : Int) ∧ m ≤ 6 := ⟨d1.toNat, by omega, by omega⟩
          cases hta : B.take (classZ (m : Int)) with
          | none =>
            have HC := Lib.hid (CNewNone HSB.out 1 rfl HLK.out.wf (m : Int) (by omega) (by omega) hta)
            clear hta
            go_wp2_with (go_at_call 46; refine (HC.out).mono ?_; rintro e w5 ⟨rfl, hs⟩; have HS6 := Lib.hid hs; clear hs HSB HC)
            go_roundw
            case rel => exact ⟨k + 1, ts, B, by omega, by go_num, by rw [HLN.out]; omega, HLK.out, by rw [HLN.out]; exact HS6.out.tail⟩
            case measure => simp [intOf]; omega
          | some y =>
            have hany : Calls Try.prog 46 #[.pointer (some ⟨a, 0, none⟩), .int .i64 (m : Int)] (wr.alloc (.cells #[.int .i64 d0, .int .i64 (m : Int), .int .i64 d2, .int .i64 d3] 102)) fun e w' => ∃ (r : Nat) (A' : AR), e = .returned (.tuple #[.int .i64 (r : Int), .int .i64 0]) ∧ Sep w0 w' (blkR T 102 #[.int .i64 d0, .int .i64 (m : Int), .int .i64 d2, .int .i64 d3] :: arenaR a A' :: rowR 66 1 (.slice AA Ln cap) Ln (ts.map encT) :: thingsR ts :: L) ∧ NewIs B m r A' := by
              refine (ONewAny HSB.out 1 rfl HLK.out.wf m hm6).mono ?_
              rintro e w5 (⟨h, _⟩ | h)
              · rw [h] at hta; cases hta
              · exact h
            have HC := Lib.hid hany
            have hmk := mk_refs m (by omega)
            clear hany hta
            go_wp2_with (first
              | (go_at_call 46; refine (HC.out).mono ?_; rintro e w5 ⟨r, B1, rfl, hs, hN⟩; have HN1 := Lib.hid hN; obtain ⟨h1, hh1⟩ : ∃ h1, w5.heap.size = h1 := ⟨_, rfl⟩; have hs2 := (hs.box (fieldCells (List.replicate m 0)) 26).box #[.int .i64 (r : Int), .slice (some ⟨h1, 0, none⟩) m m, .int .i64 0] 69; rw [World.size_alloc, hh1] at hs2; have HS7 := Lib.hid hs2; clear hs hs2 hN HSB HC)
              | (at_builtin; refine wpList_append_sep rfl _ _ 63 rfl 66 (.pointer none) 1 8 Try.underlying63 ptrInfo04 rfl (by decide) HS7.out 4 rfl rfl [.pointer (some ⟨h1 + 1, 0, none⟩)] rfl (by simp [Value.oneCell']) (by simp only [World.size_alloc, hh1]; rfl) (by unfold maxLen; omega) (by omega) ?_; intro g4 cap4 w4 hcap4 hcm4 hs4; have HS8 := Lib.hid hs4; clear hs4))
            obtain ⟨tN, htN⟩ : ∃ tN : Thing, (⟨h1 + 1, h1, r, List.replicate m 0, 0⟩ : Thing) = tN := ⟨_, rfl⟩
            have eN : thingL tN = [blkR (h1 + 1) 69 #[.int .i64 (r : Int), .slice (some ⟨h1, 0, none⟩) m m, .int .i64 0], blkR h1 26 (fieldCells (List.replicate m 0))] := by
              rw [← htN]
              simp [thingL]
            have hq0 : Sep w0 w4 (thingL tN ++ (thingsR ts :: blkR T 102 #[.int .i64 d0, .int .i64 (m : Int), .int .i64 d2, .int .i64 d3] :: arenaR a B1 :: rowR 66 1 (.slice (some ⟨g4, 0, none⟩) (Ln + 1) cap4) (Ln + 1) (ts.map encT ++ [.pointer (some ⟨h1 + 1, 0, none⟩)]) :: L)) := by
              rw [eN]
              exact HS8.out.front 6 [0, 1, 5, 2, 3, 4]
            have hq1 : Sep w0 w4 (arenaR a B1 :: rowR 66 1 (.slice (some ⟨g4, 0, none⟩) (Ln + 1) cap4) (Ln + 1) ((ts ++ [tN]).map encT) :: thingsR (ts ++ [tN]) :: L) := by
              have h2 := (hq0.thingNew tN).swap.tail
              have h3 : Sep w0 w4 (arenaR a B1 :: rowR 66 1 (.slice (some ⟨g4, 0, none⟩) (Ln + 1) cap4) (Ln + 1) (ts.map encT ++ [.pointer (some ⟨h1 + 1, 0, none⟩)]) :: thingsR (ts ++ [tN]) :: L) := h2.front 3 [1, 2, 0]
              have e3 : (ts ++ [tN]).map encT = ts.map encT ++ [.pointer (some ⟨h1 + 1, 0, none⟩)] := by
                rw [← htN]
                simp [encT]
              rw [e3]
              exact h3
            have HQ := Lib.hid hq1
            have HLK2 := Lib.hid (show Like B1 (ts ++ [tN]) by
              have hN := HN1.out
              rw [← htN]
              exact HLK.out.born hN rfl rfl)
            clear hq0 hq1 HS8 hh1 HS7 eN
            have hl2 : (ts ++ [tN]).length = Ln + 1 := by simp [HLN.out]
            have HL2 := Lib.hid hl2
            clear hl2 htN
            go_roundw
            case rel => exact ⟨k + 1, ts ++ [tN], B1, by omega, by go_num, by rw [HL2.out]; omega, HLK2.out, by rw [HL2.out]; exact HQ.out⟩
            case measure => simp [intOf]; omega
      · have hk0 : ¬ k3 = 0 := fun e => hnew (.inl e)
        have hk0b : (k3 == 0) = false := by simpa using hk0
        have hLp : 0 < Ln := by
          rcases Nat.eq_zero_or_pos Ln with e | e
          · exact absurd (.inr e) hnew
          · exact e
        have hLz : ¬ (Ln : Int) = 0 := by omega
        have hLzb : ((Ln : Int) == 0) = false := by simpa using hLz
        obtain ⟨g, cap', hsl, _, _⟩ := HSB.out.rowSome 2 rfl hLp
        simp only [Value.slice.injEq] at hsl
        obtain ⟨rfl, _, rfl⟩ := hsl
        have qa := and_65535 d1
        obtain ⟨K, qm, ql⟩ : ∃ K : Nat, (d1 % 65536).tmod (Ln : Int) = (K : Int) ∧ K < Ln := by
          have h1 := Int.emod_nonneg (d1 % 65536) hLz
          have h2 := Int.emod_lt_of_pos (d1 % 65536) (show (0 : Int) < (Ln : Int) by omega)
          refine ⟨((d1 % 65536) % (Ln : Int)).toNat, ?_, by omega⟩
          rw [Int.tmod_eq_emod_of_nonneg (by omega)]
          omega
        have qI : (K : Int) < (Ln : Int) := by omega
        have q0I : (0 : Int) ≤ (K : Int) := by omega
        obtain ⟨t, ht⟩ : ∃ t, ts[K]? = some t := ⟨_, List.getElem?_eq_getElem (by rw [HLN.out]; exact ql)⟩
        have HK := Lib.hid ht
        have bp := HSB.out.rowCell 2 rfl K (encT t) (by rw [List.getElem?_map, ht]; rfl)
        unfold encT at bp
        have bt := (HSB.out.front 4 [3, 0, 1, 2]).thingOut ht
        have b0 := (bt.blk 0 rfl).cell 0
        have b1 := (bt.blk 0 rfl).cell 1
        have b2 := (bt.blk 0 rfl).cell 2
        have bf := (bt.blk 0 rfl).frozen 2
        simp only [List.getElem?_toArray, List.getElem?_cons_zero, List.getElem?_cons_succ] at b0 b1 b2
        clear hnew ht bt
        have hx4 := and_3 d3
        obtain ⟨e3, he3⟩ : ∃ e3, d3 % 4 = e3 := ⟨_, rfl⟩
        rw [he3] at hx4
        have he30 : 0 ≤ e3 := by omega
        by_cases hto : e3 = 0
        · as_aux_lemma =>
          subst hto
          clear he3
          by_cases e1 : k3 = 1
          · subst e1
            have HSW := Lib.hid HSB.out.drew
            have yz0 := (HSW.out.blk 0 rfl).cell 0
            have yz1 := (HSW.out.blk 0 rfl).cell 1
            have yz2 := (HSW.out.blk 0 rfl).cell 2
            have yz3 := (HSW.out.blk 0 rfl).cell 3
            simp only [List.getElem?_toArray, List.getElem?_cons_zero, List.getElem?_cons_succ] at yz0 yz1 yz2 yz3
            have up := HSW.out.rowCell 2 rfl K (encT t) (by rw [List.getElem?_map, HK.out]; rfl)
            unfold encT at up
            have ut := (HSW.out.front 4 [3, 0, 1, 2]).thingOut HK.out
            have u0 := (ut.blk 0 rfl).cell 0
            have u1 := (ut.blk 0 rfl).cell 1
            have u2 := (ut.blk 0 rfl).cell 2
            have uf := (ut.blk 0 rfl).frozen 2
            simp only [List.getElem?_toArray, List.getElem?_cons_zero, List.getElem?_cons_succ] at u0 u1 u2
            have HC := Lib.hid (OSetScalar HSW.out 1 rfl HLK.out.wf (HLK.out.obj K t HK.out) d2)
            have hro : Try.prog.follows .mixedOrders = true := by kernel_rfl
            clear ut
            go_wp2_with fail
            refine wp_region_still_tail 7 (by kernel_rfl) (by kernel_rfl) ?_
            change wpStill _ _ (World.drew _) (fun a' => wpList _ _ _ _ a' (World.drew _)) _ _
            simp only [List.take_succ_cons, List.take_zero, List.drop_succ_cons, List.drop_zero]
            repeat still_step
            refine wpStill_nil ?_
            go_wp2_with (go_at_call 45; refine HC.out.mono ?_; rintro e w5 ⟨B', rfl, hs, hst, ho⟩; have yz0 := (hs.blk 0 rfl).cell 0; have yz1 := (hs.blk 0 rfl).cell 1; have yz2 := (hs.blk 0 rfl).cell 2; have yz3 := (hs.blk 0 rfl).cell 3; simp only [List.getElem?_toArray, List.getElem?_cons_zero, List.getElem?_cons_succ] at yz0 yz1 yz2 yz3; have up := hs.rowCell 2 rfl K (encT t) (by rw [List.getElem?_map, HK.out]; rfl); unfold encT at up; have ut := (hs.front 4 [3, 0, 1, 2]).thingOut HK.out; have u0 := (ut.blk 0 rfl).cell 0; have u1 := (ut.blk 0 rfl).cell 1; have u2 := (ut.blk 0 rfl).cell 2; have uf := (ut.blk 0 rfl).frozen 2; simp only [List.getElem?_toArray, List.getElem?_cons_zero, List.getElem?_cons_succ] at u0 u1 u2; clear ut; have HS6 := Lib.hid hs; have HST := Lib.hid hst; have HO := Lib.hid ho; clear hs hst ho)
            all_goals
              refine ⟨?_, ?_⟩
              · have hlt := (List.getElem?_eq_some_iff.1 HK.out).1
                have h1 := Sep.thingSet (t' := { t with x := d2 }) (HS6.out.front 4 [3, 0, 1, 2]) HK.out (fun h => h.setCell 0 rfl 2 (.int .i64 d2))
                have h2 := Sep.tail (h1.front 4 [1, 2, 3, 0])
                have e4 : (ts.set K { t with x := d2 }).map encT = ts.map encT := encT_set HK.out rfl
                refine ⟨k + 1, ts.set K { t with x := d2 }, B', by omega, by go_num, by rw [List.length_set, HLN.out]; omega, HLK.out.store HK.out rfl HST.out HO.out (HLK.out.ptr K t HK.out), ?_⟩
                rw [e4, List.length_set, HLN.out]
                exact h2
              · simp [intOf]; omega
          · have hn1 : (k3 == 1) = false := by simpa using e1
            have HSW := Lib.hid HSB.out.drew
            have yz0 := (HSW.out.blk 0 rfl).cell 0
            have yz1 := (HSW.out.blk 0 rfl).cell 1
            have yz2 := (HSW.out.blk 0 rfl).cell 2
            have yz3 := (HSW.out.blk 0 rfl).cell 3
            simp only [List.getElem?_toArray, List.getElem?_cons_zero, List.getElem?_cons_succ] at yz0 yz1 yz2 yz3
            have up := HSW.out.rowCell 2 rfl K (encT t) (by rw [List.getElem?_map, HK.out]; rfl)
            unfold encT at up
            have ut := (HSW.out.front 4 [3, 0, 1, 2]).thingOut HK.out
            have u0 := (ut.blk 0 rfl).cell 0
            have u1 := (ut.blk 0 rfl).cell 1
            have u2 := (ut.blk 0 rfl).cell 2
            have uf := (ut.blk 0 rfl).frozen 2
            simp only [List.getElem?_toArray, List.getElem?_cons_zero, List.getElem?_cons_succ] at u0 u1 u2
            have hro : Try.prog.follows .mixedOrders = true := by kernel_rfl
            clear ut
            by_cases hin : 0 ≤ d2 ∧ d2 < (t.fs.length : Int)
            · obtain ⟨jj, rfl⟩ : ∃ jj : Nat, d2 = (jj : Int) := ⟨d2.toNat, by omega⟩
              have HC := Lib.hid (OSetField HSW.out 1 rfl HLK.out.wf (HLK.out.obj K t HK.out) jj (by omega) (0 : Int))
              obtain ⟨hin1, hin2⟩ := hin
              have hin3 : jj < t.fs.length := by omega
              go_wp2_with fail
              refine wp_region_still_tail 8 (by kernel_rfl) (by kernel_rfl) ?_
              change wpStill _ _ (World.drew _) (fun a' => wpList _ _ _ _ a' (World.drew _)) _ _
              simp only [List.take_succ_cons, List.take_zero, List.drop_succ_cons, List.drop_zero]
              repeat still_step
              refine wpStill_nil ?_
              go_wp2_with (go_at_call 44; refine HC.out.mono ?_; rintro e w5 ⟨B', rfl, hs, hst, ho⟩; have yz0 := (hs.blk 0 rfl).cell 0; have yz1 := (hs.blk 0 rfl).cell 1; have yz2 := (hs.blk 0 rfl).cell 2; have yz3 := (hs.blk 0 rfl).cell 3; simp only [List.getElem?_toArray, List.getElem?_cons_zero, List.getElem?_cons_succ] at yz0 yz1 yz2 yz3; have up := hs.rowCell 2 rfl K (encT t) (by rw [List.getElem?_map, HK.out]; rfl); unfold encT at up; have ut := (hs.front 4 [3, 0, 1, 2]).thingOut HK.out; have u0 := (ut.blk 0 rfl).cell 0; have u1 := (ut.blk 0 rfl).cell 1; have u2 := (ut.blk 0 rfl).cell 2; have uf := (ut.blk 0 rfl).frozen 2; simp only [List.getElem?_toArray, List.getElem?_cons_zero, List.getElem?_cons_succ] at u0 u1 u2; have v0 := (ut.blk 1 rfl).cell jj; have vf := (ut.blk 1 rfl).frozen jj; rw [show (fieldCells t.fs)[jj]? = some (.int .i64 (t.fs[jj]?.getD 0)) by simp [fieldCells, hin3]] at v0; clear ut; have HS6 := Lib.hid hs; have HST := Lib.hid hst; have HO := Lib.hid ho; clear hs hst ho)
              all_goals
                go_simp
                go_quiet (fail)
                go_wp2_with fail
                go_region
                go_wp2_with fail
                have hlt := (List.getElem?_eq_some_iff.1 HK.out).1
                have h1 := Sep.thingSet (t' := { t with fs := t.fs.set jj (0 : Int) }) (HS6.out.front 4 [3, 0, 1, 2]) HK.out (fun h => by
                  have := (h.drewN (nq + 1)).setCell 1 rfl jj (.int .i64 (0 : Int))
                  rw [fieldCells_set] at this
                  simpa [thingL] using this)
                have h2 := Sep.tail (h1.front 4 [1, 2, 3, 0])
                have e4 : (ts.set K { t with fs := t.fs.set jj (0 : Int) }).map encT = ts.map encT := encT_set HK.out rfl
                refine ⟨?_, ?_⟩
                · refine ⟨k + 1, ts.set K { t with fs := t.fs.set jj (0 : Int) }, B', by omega, by go_num, by rw [List.length_set, HLN.out]; omega, HLK.out.store HK.out rfl HST.out HO.out ?_, ?_⟩
                  · intro v hv
                    rcases List.mem_or_eq_of_mem_set hv with h | rfl
                    · exact HLK.out.ptr K t HK.out v h
                    · exact .inl rfl
                  · rw [e4, List.length_set, HLN.out]
                    exact h2
                · simp [intOf]; omega
            · have hc := OSetFieldOut HSW.out 1 rfl HLK.out.wf (HLK.out.obj K t HK.out) d2 hin (0 : Int)
              have HC := Lib.hid hc
              clear hc
              by_cases hneg : d2 < 0
              · have hneg2 : ¬ 0 ≤ d2 := by omega
                have hneg3 : decide (0 ≤ d2) = false := decide_eq_false hneg2
                clear hin
                go_wp2_with fail
                refine wp_region_still_tail 8 (by kernel_rfl) (by kernel_rfl) ?_
                change wpStill _ _ (World.drew _) (fun a' => wpList _ _ _ _ a' (World.drew _)) _ _
                simp only [List.take_succ_cons, List.take_zero, List.drop_succ_cons, List.drop_zero]
                repeat still_step
                refine wpStill_nil ?_
                go_wp2_with (go_at_call 44; refine HC.out.mono ?_; rintro e w5 ⟨rfl, hs⟩; have yz0 := (hs.blk 0 rfl).cell 0; have yz1 := (hs.blk 0 rfl).cell 1; have yz2 := (hs.blk 0 rfl).cell 2; have yz3 := (hs.blk 0 rfl).cell 3; simp only [List.getElem?_toArray, List.getElem?_cons_zero, List.getElem?_cons_succ] at yz0 yz1 yz2 yz3; have up := hs.rowCell 2 rfl K (encT t) (by rw [List.getElem?_map, HK.out]; rfl); unfold encT at up; have ut := (hs.front 4 [3, 0, 1, 2]).thingOut HK.out; have u0 := (ut.blk 0 rfl).cell 0; have u1 := (ut.blk 0 rfl).cell 1; have u2 := (ut.blk 0 rfl).cell 2; have uf := (ut.blk 0 rfl).frozen 2; simp only [List.getElem?_toArray, List.getElem?_cons_zero, List.getElem?_cons_succ] at u0 u1 u2; clear ut; have HS6 := Lib.hid hs; clear hs)
                all_goals
                  go_simp
                  go_quiet (fail)
                  go_wp2_with fail
                  refine ⟨?_, ?_⟩
                  · exact ⟨k + 1, ts, B, by omega, by go_num, by rw [HLN.out]; omega, HLK.out, by rw [HLN.out]; exact (HS6.out.drewN nq).tail⟩
                  · simp [intOf]; omega
              · have hge : 0 ≤ d2 := by omega
                have hge2 : ¬ d2 < (t.fs.length : Int) := by omega
                clear hin
                go_wp2_with fail
                refine wp_region_still_tail 8 (by kernel_rfl) (by kernel_rfl) ?_
                change wpStill _ _ (World.drew _) (fun a' => wpList _ _ _ _ a' (World.drew _)) _ _
                simp only [List.take_succ_cons, List.take_zero, List.drop_succ_cons, List.drop_zero]
                repeat still_step
                refine wpStill_nil ?_
                go_wp2_with (go_at_call 44; refine HC.out.mono ?_; rintro e w5 ⟨rfl, hs⟩; have yz0 := (hs.blk 0 rfl).cell 0; have yz1 := (hs.blk 0 rfl).cell 1; have yz2 := (hs.blk 0 rfl).cell 2; have yz3 := (hs.blk 0 rfl).cell 3; simp only [List.getElem?_toArray, List.getElem?_cons_zero, List.getElem?_cons_succ] at yz0 yz1 yz2 yz3; have up := hs.rowCell 2 rfl K (encT t) (by rw [List.getElem?_map, HK.out]; rfl); unfold encT at up; have ut := (hs.front 4 [3, 0, 1, 2]).thingOut HK.out; have u0 := (ut.blk 0 rfl).cell 0; have u1 := (ut.blk 0 rfl).cell 1; have u2 := (ut.blk 0 rfl).cell 2; have uf := (ut.blk 0 rfl).frozen 2; simp only [List.getElem?_toArray, List.getElem?_cons_zero, List.getElem?_cons_succ] at u0 u1 u2; clear ut; have HS6 := Lib.hid hs; clear hs)
                all_goals
                  go_simp
                  go_quiet (fail)
                  go_wp2_with fail
                  refine ⟨?_, ?_⟩
                  · exact ⟨k + 1, ts, B, by omega, by go_num, by rw [HLN.out]; omega, HLK.out, by rw [HLN.out]; exact (HS6.out.drewN nq).tail⟩
                  · simp [intOf]; omega
        · as_aux_lemma =>
          have hto2 : (0 : Int) < e3 := by omega
          clear he3
          have pa := and_65535 d3
          obtain ⟨K2, pm, pl⟩ : ∃ K2 : Nat, (d3 % 65536).tmod (Ln : Int) = (K2 : Int) ∧ K2 < Ln := by
            have h1 := Int.emod_nonneg (d3 % 65536) hLz
            have h2 := Int.emod_lt_of_pos (d3 % 65536) (show (0 : Int) < (Ln : Int) by omega)
            refine ⟨((d3 % 65536) % (Ln : Int)).toNat, ?_, by omega⟩
            rw [Int.tmod_eq_emod_of_nonneg (by omega)]
            omega
          have pI : (K2 : Int) < (Ln : Int) := by omega
          have p0I : (0 : Int) ≤ (K2 : Int) := by omega
          obtain ⟨t2, ht2⟩ : ∃ t, ts[K2]? = some t := ⟨_, List.getElem?_eq_getElem (by rw [HLN.out]; exact pl)⟩
          have cp := HSB.out.rowCell 2 rfl K2 (encT t2) (by rw [List.getElem?_map, ht2]; rfl)
          unfold encT at cp
          have ct := (HSB.out.front 4 [3, 0, 1, 2]).thingOut ht2
          have c0 := (ct.blk 0 rfl).cell 0
          have c1 := (ct.blk 0 rfl).cell 1
          have c2 := (ct.blk 0 rfl).cell 2
          have cf := (ct.blk 0 rfl).frozen 2
          simp only [List.getElem?_toArray, List.getElem?_cons_zero, List.getElem?_cons_succ] at c0 c1 c2
          have HK2 := Lib.hid ht2
          clear ht2 ct
          by_cases e1 : k3 = 1
          · subst e1
            have HSW := Lib.hid HSB.out.drew
            have yz0 := (HSW.out.blk 0 rfl).cell 0
            have yz1 := (HSW.out.blk 0 rfl).cell 1
            have yz2 := (HSW.out.blk 0 rfl).cell 2
            have yz3 := (HSW.out.blk 0 rfl).cell 3
            simp only [List.getElem?_toArray, List.getElem?_cons_zero, List.getElem?_cons_succ] at yz0 yz1 yz2 yz3
            have up := HSW.out.rowCell 2 rfl K (encT t) (by rw [List.getElem?_map, HK.out]; rfl)
            unfold encT at up
            have ut := (HSW.out.front 4 [3, 0, 1, 2]).thingOut HK.out
            have u0 := (ut.blk 0 rfl).cell 0
            have u1 := (ut.blk 0 rfl).cell 1
            have u2 := (ut.blk 0 rfl).cell 2
            have uf := (ut.blk 0 rfl).frozen 2
            simp only [List.getElem?_toArray, List.getElem?_cons_zero, List.getElem?_cons_succ] at u0 u1 u2
            have HC := Lib.hid (OSetScalar HSW.out 1 rfl HLK.out.wf (HLK.out.obj K t HK.out) d2)
            have hro : Try.prog.follows .mixedOrders = true := by kernel_rfl
            clear ut
            go_wp2_with fail
            refine wp_region_still_tail 7 (by kernel_rfl) (by kernel_rfl) ?_
            change wpStill _ _ (World.drew _) (fun a' => wpList _ _ _ _ a' (World.drew _)) _ _
            simp only [List.take_succ_cons, List.take_zero, List.drop_succ_cons, List.drop_zero]
            repeat still_step
            refine wpStill_nil ?_
            go_wp2_with (go_at_call 45; refine HC.out.mono ?_; rintro e w5 ⟨B', rfl, hs, hst, ho⟩; have yz0 := (hs.blk 0 rfl).cell 0; have yz1 := (hs.blk 0 rfl).cell 1; have yz2 := (hs.blk 0 rfl).cell 2; have yz3 := (hs.blk 0 rfl).cell 3; simp only [List.getElem?_toArray, List.getElem?_cons_zero, List.getElem?_cons_succ] at yz0 yz1 yz2 yz3; have up := hs.rowCell 2 rfl K (encT t) (by rw [List.getElem?_map, HK.out]; rfl); unfold encT at up; have ut := (hs.front 4 [3, 0, 1, 2]).thingOut HK.out; have u0 := (ut.blk 0 rfl).cell 0; have u1 := (ut.blk 0 rfl).cell 1; have u2 := (ut.blk 0 rfl).cell 2; have uf := (ut.blk 0 rfl).frozen 2; simp only [List.getElem?_toArray, List.getElem?_cons_zero, List.getElem?_cons_succ] at u0 u1 u2; clear ut; have HS6 := Lib.hid hs; have HST := Lib.hid hst; have HO := Lib.hid ho; clear hs hst ho)
            all_goals
              refine ⟨?_, ?_⟩
              · have hlt := (List.getElem?_eq_some_iff.1 HK.out).1
                have h1 := Sep.thingSet (t' := { t with x := d2 }) (HS6.out.front 4 [3, 0, 1, 2]) HK.out (fun h => h.setCell 0 rfl 2 (.int .i64 d2))
                have h2 := Sep.tail (h1.front 4 [1, 2, 3, 0])
                have e4 : (ts.set K { t with x := d2 }).map encT = ts.map encT := encT_set HK.out rfl
                refine ⟨k + 1, ts.set K { t with x := d2 }, B', by omega, by go_num, by rw [List.length_set, HLN.out]; omega, HLK.out.store HK.out rfl HST.out HO.out (HLK.out.ptr K t HK.out), ?_⟩
                rw [e4, List.length_set, HLN.out]
                exact h2
              · simp [intOf]; omega
          · have hn1 : (k3 == 1) = false := by simpa using e1
            have HSW := Lib.hid HSB.out.drew
            have yz0 := (HSW.out.blk 0 rfl).cell 0
            have yz1 := (HSW.out.blk 0 rfl).cell 1
            have yz2 := (HSW.out.blk 0 rfl).cell 2
            have yz3 := (HSW.out.blk 0 rfl).cell 3
            simp only [List.getElem?_toArray, List.getElem?_cons_zero, List.getElem?_cons_succ] at yz0 yz1 yz2 yz3
            have up := HSW.out.rowCell 2 rfl K (encT t) (by rw [List.getElem?_map, HK.out]; rfl)
            unfold encT at up
            have ut := (HSW.out.front 4 [3, 0, 1, 2]).thingOut HK.out
            have u0 := (ut.blk 0 rfl).cell 0
            have u1 := (ut.blk 0 rfl).cell 1
            have u2 := (ut.blk 0 rfl).cell 2
            have uf := (ut.blk 0 rfl).frozen 2
            simp only [List.getElem?_toArray, List.getElem?_cons_zero, List.getElem?_cons_succ] at u0 u1 u2
            have hro : Try.prog.follows .mixedOrders = true := by kernel_rfl
            clear ut
            by_cases hin : 0 ≤ d2 ∧ d2 < (t.fs.length : Int)
            · obtain ⟨jj, rfl⟩ : ∃ jj : Nat, d2 = (jj : Int) := ⟨d2.toNat, by omega⟩
              have HC := Lib.hid (OSetField HSW.out 1 rfl HLK.out.wf (HLK.out.obj K t HK.out) jj (by omega) (t2.r : Int))
              obtain ⟨hin1, hin2⟩ := hin
              have hin3 : jj < t.fs.length := by omega
              go_wp2_with fail
              refine wp_region_still_tail 8 (by kernel_rfl) (by kernel_rfl) ?_
              change wpStill _ _ (World.drew _) (fun a' => wpList _ _ _ _ a' (World.drew _)) _ _
              simp only [List.take_succ_cons, List.take_zero, List.drop_succ_cons, List.drop_zero]
              repeat still_step
              refine wpStill_nil ?_
              go_wp2_with (go_at_call 44; refine HC.out.mono ?_; rintro e w5 ⟨B', rfl, hs, hst, ho⟩; have yz0 := (hs.blk 0 rfl).cell 0; have yz1 := (hs.blk 0 rfl).cell 1; have yz2 := (hs.blk 0 rfl).cell 2; have yz3 := (hs.blk 0 rfl).cell 3; simp only [List.getElem?_toArray, List.getElem?_cons_zero, List.getElem?_cons_succ] at yz0 yz1 yz2 yz3; have up := hs.rowCell 2 rfl K (encT t) (by rw [List.getElem?_map, HK.out]; rfl); unfold encT at up; have ut := (hs.front 4 [3, 0, 1, 2]).thingOut HK.out; have u0 := (ut.blk 0 rfl).cell 0; have u1 := (ut.blk 0 rfl).cell 1; have u2 := (ut.blk 0 rfl).cell 2; have uf := (ut.blk 0 rfl).frozen 2; simp only [List.getElem?_toArray, List.getElem?_cons_zero, List.getElem?_cons_succ] at u0 u1 u2; have v0 := (ut.blk 1 rfl).cell jj; have vf := (ut.blk 1 rfl).frozen jj; rw [show (fieldCells t.fs)[jj]? = some (.int .i64 (t.fs[jj]?.getD 0)) by simp [fieldCells, hin3]] at v0; clear ut; have HS6 := Lib.hid hs; have HST := Lib.hid hst; have HO := Lib.hid ho; clear hs hst ho)
              all_goals
                go_simp
                go_quiet (fail)
                go_wp2_with fail
                go_region
                go_wp2_with fail
                have hlt := (List.getElem?_eq_some_iff.1 HK.out).1
                have h1 := Sep.thingSet (t' := { t with fs := t.fs.set jj (t2.r : Int) }) (HS6.out.front 4 [3, 0, 1, 2]) HK.out (fun h => by
                  have := (h.drewN (nq + 1)).setCell 1 rfl jj (.int .i64 (t2.r : Int))
                  rw [fieldCells_set] at this
                  simpa [thingL] using this)
                have h2 := Sep.tail (h1.front 4 [1, 2, 3, 0])
                have e4 : (ts.set K { t with fs := t.fs.set jj (t2.r : Int) }).map encT = ts.map encT := encT_set HK.out rfl
                refine ⟨?_, ?_⟩
                · refine ⟨k + 1, ts.set K { t with fs := t.fs.set jj (t2.r : Int) }, B', by omega, by go_num, by rw [List.length_set, HLN.out]; omega, HLK.out.store HK.out rfl HST.out HO.out ?_, ?_⟩
                  · intro v hv
                    rcases List.mem_or_eq_of_mem_set hv with h | rfl
                    · exact HLK.out.ptr K t HK.out v h
                    · exact .inr ⟨t2.r, rfl, by have := (HLK.out.obj K2 t2 HK2.out).pos HLK.out.wf; omega⟩
                  · rw [e4, List.length_set, HLN.out]
                    exact h2
                · simp [intOf]; omega
            · have hc := OSetFieldOut HSW.out 1 rfl HLK.out.wf (HLK.out.obj K t HK.out) d2 hin (t2.r : Int)
              have HC := Lib.hid hc
              clear hc
              by_cases hneg : d2 < 0
              · have hneg2 : ¬ 0 ≤ d2 := by omega
                have hneg3 : decide (0 ≤ d2) = false := decide_eq_false hneg2
                clear hin
                go_wp2_with fail
                refine wp_region_still_tail 8 (by kernel_rfl) (by kernel_rfl) ?_
                change wpStill _ _ (World.drew _) (fun a' => wpList _ _ _ _ a' (World.drew _)) _ _
                simp only [List.take_succ_cons, List.take_zero, List.drop_succ_cons, List.drop_zero]
                repeat still_step
                refine wpStill_nil ?_
                go_wp2_with (go_at_call 44; refine HC.out.mono ?_; rintro e w5 ⟨rfl, hs⟩; have yz0 := (hs.blk 0 rfl).cell 0; have yz1 := (hs.blk 0 rfl).cell 1; have yz2 := (hs.blk 0 rfl).cell 2; have yz3 := (hs.blk 0 rfl).cell 3; simp only [List.getElem?_toArray, List.getElem?_cons_zero, List.getElem?_cons_succ] at yz0 yz1 yz2 yz3; have up := hs.rowCell 2 rfl K (encT t) (by rw [List.getElem?_map, HK.out]; rfl); unfold encT at up; have ut := (hs.front 4 [3, 0, 1, 2]).thingOut HK.out; have u0 := (ut.blk 0 rfl).cell 0; have u1 := (ut.blk 0 rfl).cell 1; have u2 := (ut.blk 0 rfl).cell 2; have uf := (ut.blk 0 rfl).frozen 2; simp only [List.getElem?_toArray, List.getElem?_cons_zero, List.getElem?_cons_succ] at u0 u1 u2; clear ut; have HS6 := Lib.hid hs; clear hs)
                all_goals
                  go_simp
                  go_quiet (fail)
                  go_wp2_with fail
                  refine ⟨?_, ?_⟩
                  · exact ⟨k + 1, ts, B, by omega, by go_num, by rw [HLN.out]; omega, HLK.out, by rw [HLN.out]; exact (HS6.out.drewN nq).tail⟩
                  · simp [intOf]; omega
              · have hge : 0 ≤ d2 := by omega
                have hge2 : ¬ d2 < (t.fs.length : Int) := by omega
                clear hin
                go_wp2_with fail
                refine wp_region_still_tail 8 (by kernel_rfl) (by kernel_rfl) ?_
                change wpStill _ _ (World.drew _) (fun a' => wpList _ _ _ _ a' (World.drew _)) _ _
                simp only [List.take_succ_cons, List.take_zero, List.drop_succ_cons, List.drop_zero]
                repeat still_step
                refine wpStill_nil ?_
                go_wp2_with (go_at_call 44; refine HC.out.mono ?_; rintro e w5 ⟨rfl, hs⟩; have yz0 := (hs.blk 0 rfl).cell 0; have yz1 := (hs.blk 0 rfl).cell 1; have yz2 := (hs.blk 0 rfl).cell 2; have yz3 := (hs.blk 0 rfl).cell 3; simp only [List.getElem?_toArray, List.getElem?_cons_zero, List.getElem?_cons_succ] at yz0 yz1 yz2 yz3; have up := hs.rowCell 2 rfl K (encT t) (by rw [List.getElem?_map, HK.out]; rfl); unfold encT at up; have ut := (hs.front 4 [3, 0, 1, 2]).thingOut HK.out; have u0 := (ut.blk 0 rfl).cell 0; have u1 := (ut.blk 0 rfl).cell 1; have u2 := (ut.blk 0 rfl).cell 2; have uf := (ut.blk 0 rfl).frozen 2; simp only [List.getElem?_toArray, List.getElem?_cons_zero, List.getElem?_cons_succ] at u0 u1 u2; clear ut; have HS6 := Lib.hid hs; clear hs)
                all_goals
                  go_simp
                  go_quiet (fail)
                  go_wp2_with fail
                  refine ⟨?_, ?_⟩
                  · exact ⟨k + 1, ts, B, by omega, by go_num, by rw [HLN.out]; omega, HLK.out, by rw [HLN.out]; exact (HS6.out.drewN nq).tail⟩
                  · simp [intOf]; omega
    · obtain rfl : k = n := by omega
      have HS := Lib.hid hs
      clear hs
      go_wp2_with fail
      go_ret2
      exact ⟨_, ts, B, rfl, hlen, HLK.out, HS.out⟩
end
end Go.Proofs.Ytapbphbnffggnaa
