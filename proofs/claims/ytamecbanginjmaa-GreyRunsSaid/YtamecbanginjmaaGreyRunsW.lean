/-
  The walk of GreyRuns. Conditions: as the theorem says.
-/
import Derived.Test.YtamecbanginjmaaGrey
import Derived.Test.YtamecbanginjmaaOpen
import Derived.Test.YtamecbanginjmaaBits
namespace Go.Proofs.Ytamecbanginjmaa
open Go.RowKit Go.ChangeShapes

/-- The stack at b, and the slice v beside it, hold l. -/
def GRel (w wr : World) (b : Nat) (R : Int) (l : List Int) (v : Value) (ov : Bool) : Prop :=
  ∃ F, GreyAt wr F b l (max R 0) ov ∧ wr.ownsRow 0 26 1 v l.length (l.map (.int .i64)) ∧ (∀ x ∈ F, v.ownBlock ≠ some x) ∧ Own w (F ++ v.ownBlock.toList) wr

set_option maxRecDepth 100000 in
set_option maxHeartbeats 1000000 in
theorem greyRuns_walk (room : Int) (A : Option Addr) (n c : Nat) (D : Nat → Nat → Int) (w : World) (_hr : (Lit.int .i64 room).wf = true) (hz : ArgI w A n [.i64, .i64] D) (hm : n ≤ maxLen) :
    Calls Try.prog 6 #[.int .i64 room, .slice A n c] w fun e w' => e = .returned (.bool true) ∧ Below w.heap.size w w' := by
  have hO := Own.start w
  have HZ := Lib.hid hz
  clear hz
  unfold maxLen at hm
  by_cases hn : 100 < n
  · go_enter Try.func6, Try.ntmps6
    go_wp2_with fail
    refine (fit10 _).mono ?_
    rintro e w1 ⟨rfl, hC⟩
    replace hO := hO.same hC
    go_wp2_with fail
    go_ret
    exact ⟨rfl, hO.below⟩
  have hb := and_15 room
  obtain ⟨R, hR⟩ : ∃ R, room % 16 - 2 = R := ⟨_, rfl⟩
  go_enter Try.func6, Try.ntmps6
  go_wp2_with fail
  refine (fit10 _).mono ?_
  rintro e w1 ⟨rfl, hC⟩
  replace hO := hO.same hC
  clear hC
  go_wp2_with fail
  refine (New _ _).mono ?_
  rintro e w2 ⟨b, rfl, hb2, hG, hC⟩
  replace hO := hO.step hC (F' := [b]) (by intro x hx; simp at hx; omega)
  clear hC hb2 hb
  have hR1 : R ≤ 14 := by omega
  have hR0 : -2 ≤ R := by omega
  clear hR
  have hP : GRel w w2 b R [] (.slice none 0 0) false := ⟨_, hG, ⟨by simp, .inl ⟨rfl, rfl⟩⟩, by simp [Value.ownBlock], by simpa [Value.ownBlock] using hO⟩
  clear hG hO
  go_wp2_with fail
  go_loopw [6, 7, 26] (fun v o i wr => ∃ (k : Nat) (l : List Int) (ov : Bool), k ≤ n ∧ i = .int .i64 k ∧ o = .bool ov ∧ GRel w wr b R l v ov ∧ (l.length : Int) ≤ max R 0) (fun _ _ i _ => n - (intOf i).toNat)
  case atStart => exact ⟨0, [], false, by omega, rfl, rfl, hP, by simp; omega⟩
  case round =>
    obtain ⟨k, l, ov, hk, rfl, rfl, hP2, hlR⟩ := hrel
    clear hP
    by_cases hlt : k < n
    · obtain ⟨F, hG, hV, hd, hO⟩ := hP2
      obtain ⟨A2, cap, rfl, hcap, hcm⟩ := row_slice hV
      obtain ⟨ab, ao, rfl, hcell⟩ := HZ.out.at_ hO hlt
      have hc0 := hcell 0 _ rfl
      have hc1 := hcell 1 _ rfl
      simp at hc0 hc1
      have hx := and_7 (D k 0)
      have HG := Lib.hid hG
      have HV := Lib.hid hV
      have HD := Lib.hid hd
      have HO := Lib.hid hO
      clear hcell hG hV hd hO
      unfold maxLen at hcm
      rcases (by omega : D k 0 % 8 = 0 ∨ D k 0 % 8 = 1 ∨ D k 0 % 8 = 2 ∨ D k 0 % 8 = 3 ∨ D k 0 % 8 = 4 ∨ D k 0 % 8 = 5 ∨ D k 0 % 8 = 6 ∨ D k 0 % 8 = 7) with h | h | h | h | h | h | h | h
      · by_cases hmay : (l.length : Int) < R
        · have HC0 := Lib.hid ((Chg.refl [] wr).alloc (.cells #[.int .i64 (D k 0), .int .i64 (D k 1)] 36))
          have HB0 := Lib.hid (Blk.new wr 36 #[.int .i64 (D k 0), .int .i64 (D k 1)])
          have HG0 := Lib.hid (HG.out.keep HC0.out (by simp))
          have HV0 := Lib.hid (HC0.out.row HV.out (by simp))
          have HO0 := Lib.hid (show Own w (F ++ (Value.slice A2 l.length cap).ownBlock.toList) (wr.alloc _) from HO.out.same (HC0.out.mono (by simp)))
          go_wp2_with fail
          refine (PushYes HG0.out _ (by omega) (by omega)).mono ?_
          rintro e w3 ⟨F3, rfl, hG3, hC3, hS3⟩
          have hB3 := hC3.blk HB0.out (fun hm => by have := HG.out.lt _ hm; omega)
          have hV3 := hC3.row HV0.out (fun x hx hm => HD.out x hm hx)
          have hO3 := HO0.out.step (hC3.mono (F' := F ++ (Value.slice A2 l.length cap).ownBlock.toList) (fun x hx => .inl (by simp [hx]))) (F' := F3 ++ (Value.slice A2 l.length cap).ownBlock.toList) (by
            intro x hx
            rcases List.mem_append.1 hx with h1 | h1
            · rcases hS3 x h1 with h2 | h2
              · exact .inl (by simp [h2])
              · exact .inr h2
            · exact .inl (by simp [h1]))
          have hd3 : ∀ x ∈ F3, (Value.slice A2 l.length cap).ownBlock ≠ some x := by
            intro x hx he
            rcases hS3 x hx with h2 | h2
            · exact HD.out x h2 he
            · have := row_lt HV0.out he; omega
          have hc3 := hB3.cell 1
          simp at hc3
          have HG3 := Lib.hid hG3
          have HV3 := Lib.hid hV3
          have HO3 := Lib.hid hO3
          have HD3 := Lib.hid hd3
          clear hG3 hV3 hO3 hd3 hS3 hB3 hC3
          obtain ⟨i0, hi, hz0, hz1, hz2⟩ := info_parts refInfo
          go_wp2_with (at_builtin; refine wpList_append_own_at _ rfl _ _ 22 rfl 0 26 i0 (.int .i64 0) 1 8 Try.underlying22 hi hz0 hz1 hz2 rfl (by decide) _ _ _ rfl (World.ownsRow.alloc HV3.out _) ⟨w3.heap.size, 0, none⟩ 1 1 [.int .i64 (D k 1)] rfl rfl ?c1 ?c2 ?c3 ?c4 ?c5 ?_)
          case c1 => exact cell_one_new _ _ _
          case c2 => intro u hu; simp at hu; subst hu; rfl
          case c3 => unfold maxLen; omega
          case c4 => omega
          case c5 => omega
          intro v' w4 hown hgrow _ hblk
          obtain ⟨g4, cap4, rfl, hcap4, hcm4, hg4⟩ := row_some hown (by omega)
          have hC4 : Chg (Value.slice A2 l.length cap).ownBlock.toList w3 w4 := Chg.grown ((Chg.refl _ w3).alloc _) hgrow (fun k hk => .inl (by simp [hk]))
          have hG4 := HG3.out.keep hC4 (fun x hx hm => HD3.out x hx (by simpa using hm))
          have hsub : ∀ x, (Value.slice (some ⟨g4, 0, none⟩) (l.length + 1) cap4).ownBlock = some x → (Value.slice A2 l.length cap).ownBlock = some x ∨ w3.heap.size ≤ x := by
            intro x hx
            rcases hblk with h1 | h1
            · exact .inl (by rw [← h1]; exact hx)
            · rw [h1] at hx; simp at hx; exact .inr (by omega)
          have hO4 := HO3.out.step (hC4.mono (F' := F3 ++ (Value.slice A2 l.length cap).ownBlock.toList) (fun x hx => .inl (by simp at hx; simp [hx]))) (F' := F3 ++ (Value.slice (some ⟨g4, 0, none⟩) (l.length + 1) cap4).ownBlock.toList) (by
            intro x hx
            rcases List.mem_append.1 hx with h1 | h1
            · exact .inl (by simp [h1])
            · rcases hsub x (by simpa using h1) with h2 | h2
              · exact .inl (by simp [h2])
              · exact .inr h2)
          have hd4 : ∀ x ∈ F3, (Value.slice (some ⟨g4, 0, none⟩) (l.length + 1) cap4).ownBlock ≠ some x := by
            intro x hx he
            rcases hsub x he with h2 | h2
            · exact HD3.out x hx h2
            · have := HG3.out.lt x hx; omega
          have HG4 := Lib.hid hG4
          have HV4 := Lib.hid (show w4.ownsRow 0 26 1 (.slice (some ⟨g4, 0, none⟩) (l.length + 1) cap4) (l ++ [D k 1]).length ((l ++ [D k 1]).map (.int .i64)) by simpa using hown)
          have HO4 := Lib.hid hO4
          have HD4 := Lib.hid hd4
          have HLL := Lib.hid (show (((l ++ [D k 1]).length : Nat) : Int) = (l.length : Int) + 1 by simp)
          clear hG4 hown hO4 hd4 hsub hblk hgrow hC4
          unfold maxLen at hcm4
          go_wp2_with fail
          refine (Len HG4.out).mono ?_
          rintro e w' ⟨rfl, rfl⟩
          rw [HLL.out]
          go_wp2_with fail
          refine (Over HG4.out).mono ?_
          rintro e w' ⟨rfl, rfl⟩
          go_wp2_with fail
          go_roundw
          case rel => exact ⟨k + 1, l ++ [D k 1], ov, by omega, by go_num, rfl, ⟨F3, HG4.out, HV4.out, HD4.out, HO4.out⟩, by rw [HLL.out]; omega⟩
          case measure => simp [intOf]; omega
        · have HC0 := Lib.hid ((Chg.refl [] wr).alloc (.cells #[.int .i64 (D k 0), .int .i64 (D k 1)] 36))
          have HB0 := Lib.hid (Blk.new wr 36 #[.int .i64 (D k 0), .int .i64 (D k 1)])
          have HG0 := Lib.hid (HG.out.keep HC0.out (by simp))
          have HV0 := Lib.hid (HC0.out.row HV.out (by simp))
          have HO0 := Lib.hid (show Own w (F ++ (Value.slice A2 l.length cap).ownBlock.toList) (wr.alloc _) from HO.out.same (HC0.out.mono (by simp)))
          go_wp2_with fail
          refine (PushNo HG0.out _ (by omega)).mono ?_
          rintro e w3 ⟨rfl, hG3, hC3⟩
          have hB3 := hC3.blk HB0.out (fun hm => by have := HG.out.lt _ hm; omega)
          have HV3 := Lib.hid (hC3.row HV0.out (fun x hx hm => HD.out x hm hx))
          have HO3 := Lib.hid (HO0.out.same (hC3.mono (F' := F ++ (Value.slice A2 l.length cap).ownBlock.toList) (fun x hx => .inl (by simp [hx]))))
          have HG3 := Lib.hid hG3
          clear hG3 hB3 hC3
          go_wp2_with fail
          refine (Len HG3.out).mono ?_
          rintro e w' ⟨rfl, rfl⟩
          go_wp2_with fail
          refine (Over HG3.out).mono ?_
          rintro e w' ⟨rfl, rfl⟩
          go_wp2_with fail
          go_roundw
          case rel => exact ⟨k + 1, l, true, by omega, by go_num, rfl, ⟨F, HG3.out, HV3.out, HD.out, HO3.out⟩, hlR⟩
          case measure => simp [intOf]; omega
      · by_cases hmay : (l.length : Int) < R
        · have HC0 := Lib.hid ((Chg.refl [] wr).alloc (.cells #[.int .i64 (D k 0), .int .i64 (D k 1)] 36))
          have HB0 := Lib.hid (Blk.new wr 36 #[.int .i64 (D k 0), .int .i64 (D k 1)])
          have HG0 := Lib.hid (HG.out.keep HC0.out (by simp))
          have HV0 := Lib.hid (HC0.out.row HV.out (by simp))
          have HO0 := Lib.hid (show Own w (F ++ (Value.slice A2 l.length cap).ownBlock.toList) (wr.alloc _) from HO.out.same (HC0.out.mono (by simp)))
          go_wp2_with fail
          refine (PushYes HG0.out _ (by omega) (by omega)).mono ?_
          rintro e w3 ⟨F3, rfl, hG3, hC3, hS3⟩
          have hB3 := hC3.blk HB0.out (fun hm => by have := HG.out.lt _ hm; omega)
          have hV3 := hC3.row HV0.out (fun x hx hm => HD.out x hm hx)
          have hO3 := HO0.out.step (hC3.mono (F' := F ++ (Value.slice A2 l.length cap).ownBlock.toList) (fun x hx => .inl (by simp [hx]))) (F' := F3 ++ (Value.slice A2 l.length cap).ownBlock.toList) (by
            intro x hx
            rcases List.mem_append.1 hx with h1 | h1
            · rcases hS3 x h1 with h2 | h2
              · exact .inl (by simp [h2])
              · exact .inr h2
            · exact .inl (by simp [h1]))
          have hd3 : ∀ x ∈ F3, (Value.slice A2 l.length cap).ownBlock ≠ some x := by
            intro x hx he
            rcases hS3 x hx with h2 | h2
            · exact HD.out x h2 he
            · have := row_lt HV0.out he; omega
          have hc3 := hB3.cell 1
          simp at hc3
          have HG3 := Lib.hid hG3
          have HV3 := Lib.hid hV3
          have HO3 := Lib.hid hO3
          have HD3 := Lib.hid hd3
          clear hG3 hV3 hO3 hd3 hS3 hB3 hC3
          obtain ⟨i0, hi, hz0, hz1, hz2⟩ := info_parts refInfo
          go_wp2_with (at_builtin; refine wpList_append_own_at _ rfl _ _ 22 rfl 0 26 i0 (.int .i64 0) 1 8 Try.underlying22 hi hz0 hz1 hz2 rfl (by decide) _ _ _ rfl (World.ownsRow.alloc HV3.out _) ⟨w3.heap.size, 0, none⟩ 1 1 [.int .i64 (D k 1)] rfl rfl ?c1 ?c2 ?c3 ?c4 ?c5 ?_)
          case c1 => exact cell_one_new _ _ _
          case c2 => intro u hu; simp at hu; subst hu; rfl
          case c3 => unfold maxLen; omega
          case c4 => omega
          case c5 => omega
          intro v' w4 hown hgrow _ hblk
          obtain ⟨g4, cap4, rfl, hcap4, hcm4, hg4⟩ := row_some hown (by omega)
          have hC4 : Chg (Value.slice A2 l.length cap).ownBlock.toList w3 w4 := Chg.grown ((Chg.refl _ w3).alloc _) hgrow (fun k hk => .inl (by simp [hk]))
          have hG4 := HG3.out.keep hC4 (fun x hx hm => HD3.out x hx (by simpa using hm))
          have hsub : ∀ x, (Value.slice (some ⟨g4, 0, none⟩) (l.length + 1) cap4).ownBlock = some x → (Value.slice A2 l.length cap).ownBlock = some x ∨ w3.heap.size ≤ x := by
            intro x hx
            rcases hblk with h1 | h1
            · exact .inl (by rw [← h1]; exact hx)
            · rw [h1] at hx; simp at hx; exact .inr (by omega)
          have hO4 := HO3.out.step (hC4.mono (F' := F3 ++ (Value.slice A2 l.length cap).ownBlock.toList) (fun x hx => .inl (by simp at hx; simp [hx]))) (F' := F3 ++ (Value.slice (some ⟨g4, 0, none⟩) (l.length + 1) cap4).ownBlock.toList) (by
            intro x hx
            rcases List.mem_append.1 hx with h1 | h1
            · exact .inl (by simp [h1])
            · rcases hsub x (by simpa using h1) with h2 | h2
              · exact .inl (by simp [h2])
              · exact .inr h2)
          have hd4 : ∀ x ∈ F3, (Value.slice (some ⟨g4, 0, none⟩) (l.length + 1) cap4).ownBlock ≠ some x := by
            intro x hx he
            rcases hsub x he with h2 | h2
            · exact HD3.out x hx h2
            · have := HG3.out.lt x hx; omega
          have HG4 := Lib.hid hG4
          have HV4 := Lib.hid (show w4.ownsRow 0 26 1 (.slice (some ⟨g4, 0, none⟩) (l.length + 1) cap4) (l ++ [D k 1]).length ((l ++ [D k 1]).map (.int .i64)) by simpa using hown)
          have HO4 := Lib.hid hO4
          have HD4 := Lib.hid hd4
          have HLL := Lib.hid (show (((l ++ [D k 1]).length : Nat) : Int) = (l.length : Int) + 1 by simp)
          clear hG4 hown hO4 hd4 hsub hblk hgrow hC4
          unfold maxLen at hcm4
          go_wp2_with fail
          refine (Len HG4.out).mono ?_
          rintro e w' ⟨rfl, rfl⟩
          rw [HLL.out]
          go_wp2_with fail
          refine (Over HG4.out).mono ?_
          rintro e w' ⟨rfl, rfl⟩
          go_wp2_with fail
          go_roundw
          case rel => exact ⟨k + 1, l ++ [D k 1], ov, by omega, by go_num, rfl, ⟨F3, HG4.out, HV4.out, HD4.out, HO4.out⟩, by rw [HLL.out]; omega⟩
          case measure => simp [intOf]; omega
        · have HC0 := Lib.hid ((Chg.refl [] wr).alloc (.cells #[.int .i64 (D k 0), .int .i64 (D k 1)] 36))
          have HB0 := Lib.hid (Blk.new wr 36 #[.int .i64 (D k 0), .int .i64 (D k 1)])
          have HG0 := Lib.hid (HG.out.keep HC0.out (by simp))
          have HV0 := Lib.hid (HC0.out.row HV.out (by simp))
          have HO0 := Lib.hid (show Own w (F ++ (Value.slice A2 l.length cap).ownBlock.toList) (wr.alloc _) from HO.out.same (HC0.out.mono (by simp)))
          go_wp2_with fail
          refine (PushNo HG0.out _ (by omega)).mono ?_
          rintro e w3 ⟨rfl, hG3, hC3⟩
          have hB3 := hC3.blk HB0.out (fun hm => by have := HG.out.lt _ hm; omega)
          have HV3 := Lib.hid (hC3.row HV0.out (fun x hx hm => HD.out x hm hx))
          have HO3 := Lib.hid (HO0.out.same (hC3.mono (F' := F ++ (Value.slice A2 l.length cap).ownBlock.toList) (fun x hx => .inl (by simp [hx]))))
          have HG3 := Lib.hid hG3
          clear hG3 hB3 hC3
          go_wp2_with fail
          refine (Len HG3.out).mono ?_
          rintro e w' ⟨rfl, rfl⟩
          go_wp2_with fail
          refine (Over HG3.out).mono ?_
          rintro e w' ⟨rfl, rfl⟩
          go_wp2_with fail
          go_roundw
          case rel => exact ⟨k + 1, l, true, by omega, by go_num, rfl, ⟨F, HG3.out, HV3.out, HD.out, HO3.out⟩, hlR⟩
          case measure => simp [intOf]; omega
      · by_cases hmay : (l.length : Int) < R
        · have HC0 := Lib.hid ((Chg.refl [] wr).alloc (.cells #[.int .i64 (D k 0), .int .i64 (D k 1)] 36))
          have HB0 := Lib.hid (Blk.new wr 36 #[.int .i64 (D k 0), .int .i64 (D k 1)])
          have HG0 := Lib.hid (HG.out.keep HC0.out (by simp))
          have HV0 := Lib.hid (HC0.out.row HV.out (by simp))
          have HO0 := Lib.hid (show Own w (F ++ (Value.slice A2 l.length cap).ownBlock.toList) (wr.alloc _) from HO.out.same (HC0.out.mono (by simp)))
          go_wp2_with fail
          refine (PushYes HG0.out _ (by omega) (by omega)).mono ?_
          rintro e w3 ⟨F3, rfl, hG3, hC3, hS3⟩
          have hB3 := hC3.blk HB0.out (fun hm => by have := HG.out.lt _ hm; omega)
          have hV3 := hC3.row HV0.out (fun x hx hm => HD.out x hm hx)
          have hO3 := HO0.out.step (hC3.mono (F' := F ++ (Value.slice A2 l.length cap).ownBlock.toList) (fun x hx => .inl (by simp [hx]))) (F' := F3 ++ (Value.slice A2 l.length cap).ownBlock.toList) (by
            intro x hx
            rcases List.mem_append.1 hx with h1 | h1
            · rcases hS3 x h1 with h2 | h2
              · exact .inl (by simp [h2])
              · exact .inr h2
            · exact .inl (by simp [h1]))
          have hd3 : ∀ x ∈ F3, (Value.slice A2 l.length cap).ownBlock ≠ some x := by
            intro x hx he
            rcases hS3 x hx with h2 | h2
            · exact HD.out x h2 he
            · have := row_lt HV0.out he; omega
          have hc3 := hB3.cell 1
          simp at hc3
          have HG3 := Lib.hid hG3
          have HV3 := Lib.hid hV3
          have HO3 := Lib.hid hO3
          have HD3 := Lib.hid hd3
          clear hG3 hV3 hO3 hd3 hS3 hB3 hC3
          obtain ⟨i0, hi, hz0, hz1, hz2⟩ := info_parts refInfo
          go_wp2_with (at_builtin; refine wpList_append_own_at _ rfl _ _ 22 rfl 0 26 i0 (.int .i64 0) 1 8 Try.underlying22 hi hz0 hz1 hz2 rfl (by decide) _ _ _ rfl (World.ownsRow.alloc HV3.out _) ⟨w3.heap.size, 0, none⟩ 1 1 [.int .i64 (D k 1)] rfl rfl ?c1 ?c2 ?c3 ?c4 ?c5 ?_)
          case c1 => exact cell_one_new _ _ _
          case c2 => intro u hu; simp at hu; subst hu; rfl
          case c3 => unfold maxLen; omega
          case c4 => omega
          case c5 => omega
          intro v' w4 hown hgrow _ hblk
          obtain ⟨g4, cap4, rfl, hcap4, hcm4, hg4⟩ := row_some hown (by omega)
          have hC4 : Chg (Value.slice A2 l.length cap).ownBlock.toList w3 w4 := Chg.grown ((Chg.refl _ w3).alloc _) hgrow (fun k hk => .inl (by simp [hk]))
          have hG4 := HG3.out.keep hC4 (fun x hx hm => HD3.out x hx (by simpa using hm))
          have hsub : ∀ x, (Value.slice (some ⟨g4, 0, none⟩) (l.length + 1) cap4).ownBlock = some x → (Value.slice A2 l.length cap).ownBlock = some x ∨ w3.heap.size ≤ x := by
            intro x hx
            rcases hblk with h1 | h1
            · exact .inl (by rw [← h1]; exact hx)
            · rw [h1] at hx; simp at hx; exact .inr (by omega)
          have hO4 := HO3.out.step (hC4.mono (F' := F3 ++ (Value.slice A2 l.length cap).ownBlock.toList) (fun x hx => .inl (by simp at hx; simp [hx]))) (F' := F3 ++ (Value.slice (some ⟨g4, 0, none⟩) (l.length + 1) cap4).ownBlock.toList) (by
            intro x hx
            rcases List.mem_append.1 hx with h1 | h1
            · exact .inl (by simp [h1])
            · rcases hsub x (by simpa using h1) with h2 | h2
              · exact .inl (by simp [h2])
              · exact .inr h2)
          have hd4 : ∀ x ∈ F3, (Value.slice (some ⟨g4, 0, none⟩) (l.length + 1) cap4).ownBlock ≠ some x := by
            intro x hx he
            rcases hsub x he with h2 | h2
            · exact HD3.out x hx h2
            · have := HG3.out.lt x hx; omega
          have HG4 := Lib.hid hG4
          have HV4 := Lib.hid (show w4.ownsRow 0 26 1 (.slice (some ⟨g4, 0, none⟩) (l.length + 1) cap4) (l ++ [D k 1]).length ((l ++ [D k 1]).map (.int .i64)) by simpa using hown)
          have HO4 := Lib.hid hO4
          have HD4 := Lib.hid hd4
          have HLL := Lib.hid (show (((l ++ [D k 1]).length : Nat) : Int) = (l.length : Int) + 1 by simp)
          clear hG4 hown hO4 hd4 hsub hblk hgrow hC4
          unfold maxLen at hcm4
          go_wp2_with fail
          refine (Len HG4.out).mono ?_
          rintro e w' ⟨rfl, rfl⟩
          rw [HLL.out]
          go_wp2_with fail
          refine (Over HG4.out).mono ?_
          rintro e w' ⟨rfl, rfl⟩
          go_wp2_with fail
          go_roundw
          case rel => exact ⟨k + 1, l ++ [D k 1], ov, by omega, by go_num, rfl, ⟨F3, HG4.out, HV4.out, HD4.out, HO4.out⟩, by rw [HLL.out]; omega⟩
          case measure => simp [intOf]; omega
        · have HC0 := Lib.hid ((Chg.refl [] wr).alloc (.cells #[.int .i64 (D k 0), .int .i64 (D k 1)] 36))
          have HB0 := Lib.hid (Blk.new wr 36 #[.int .i64 (D k 0), .int .i64 (D k 1)])
          have HG0 := Lib.hid (HG.out.keep HC0.out (by simp))
          have HV0 := Lib.hid (HC0.out.row HV.out (by simp))
          have HO0 := Lib.hid (show Own w (F ++ (Value.slice A2 l.length cap).ownBlock.toList) (wr.alloc _) from HO.out.same (HC0.out.mono (by simp)))
          go_wp2_with fail
          refine (PushNo HG0.out _ (by omega)).mono ?_
          rintro e w3 ⟨rfl, hG3, hC3⟩
          have hB3 := hC3.blk HB0.out (fun hm => by have := HG.out.lt _ hm; omega)
          have HV3 := Lib.hid (hC3.row HV0.out (fun x hx hm => HD.out x hm hx))
          have HO3 := Lib.hid (HO0.out.same (hC3.mono (F' := F ++ (Value.slice A2 l.length cap).ownBlock.toList) (fun x hx => .inl (by simp [hx]))))
          have HG3 := Lib.hid hG3
          clear hG3 hB3 hC3
          go_wp2_with fail
          refine (Len HG3.out).mono ?_
          rintro e w' ⟨rfl, rfl⟩
          go_wp2_with fail
          refine (Over HG3.out).mono ?_
          rintro e w' ⟨rfl, rfl⟩
          go_wp2_with fail
          go_roundw
          case rel => exact ⟨k + 1, l, true, by omega, by go_num, rfl, ⟨F, HG3.out, HV3.out, HD.out, HO3.out⟩, hlR⟩
          case measure => simp [intOf]; omega
      · by_cases hmay : (l.length : Int) < R
        · have HC0 := Lib.hid ((Chg.refl [] wr).alloc (.cells #[.int .i64 (D k 0), .int .i64 (D k 1)] 36))
          have HB0 := Lib.hid (Blk.new wr 36 #[.int .i64 (D k 0), .int .i64 (D k 1)])
          have HG0 := Lib.hid (HG.out.keep HC0.out (by simp))
          have HV0 := Lib.hid (HC0.out.row HV.out (by simp))
          have HO0 := Lib.hid (show Own w (F ++ (Value.slice A2 l.length cap).ownBlock.toList) (wr.alloc _) from HO.out.same (HC0.out.mono (by simp)))
          go_wp2_with fail
          refine (PushYes HG0.out _ (by omega) (by omega)).mono ?_
          rintro e w3 ⟨F3, rfl, hG3, hC3, hS3⟩
          have hB3 := hC3.blk HB0.out (fun hm => by have := HG.out.lt _ hm; omega)
          have hV3 := hC3.row HV0.out (fun x hx hm => HD.out x hm hx)
          have hO3 := HO0.out.step (hC3.mono (F' := F ++ (Value.slice A2 l.length cap).ownBlock.toList) (fun x hx => .inl (by simp [hx]))) (F' := F3 ++ (Value.slice A2 l.length cap).ownBlock.toList) (by
            intro x hx
            rcases List.mem_append.1 hx with h1 | h1
            · rcases hS3 x h1 with h2 | h2
              · exact .inl (by simp [h2])
              · exact .inr h2
            · exact .inl (by simp [h1]))
          have hd3 : ∀ x ∈ F3, (Value.slice A2 l.length cap).ownBlock ≠ some x := by
            intro x hx he
            rcases hS3 x hx with h2 | h2
            · exact HD.out x h2 he
            · have := row_lt HV0.out he; omega
          have hc3 := hB3.cell 1
          simp at hc3
          have HG3 := Lib.hid hG3
          have HV3 := Lib.hid hV3
          have HO3 := Lib.hid hO3
          have HD3 := Lib.hid hd3
          clear hG3 hV3 hO3 hd3 hS3 hB3 hC3
          obtain ⟨i0, hi, hz0, hz1, hz2⟩ := info_parts refInfo
          go_wp2_with (at_builtin; refine wpList_append_own_at _ rfl _ _ 22 rfl 0 26 i0 (.int .i64 0) 1 8 Try.underlying22 hi hz0 hz1 hz2 rfl (by decide) _ _ _ rfl (World.ownsRow.alloc HV3.out _) ⟨w3.heap.size, 0, none⟩ 1 1 [.int .i64 (D k 1)] rfl rfl ?c1 ?c2 ?c3 ?c4 ?c5 ?_)
          case c1 => exact cell_one_new _ _ _
          case c2 => intro u hu; simp at hu; subst hu; rfl
          case c3 => unfold maxLen; omega
          case c4 => omega
          case c5 => omega
          intro v' w4 hown hgrow _ hblk
          obtain ⟨g4, cap4, rfl, hcap4, hcm4, hg4⟩ := row_some hown (by omega)
          have hC4 : Chg (Value.slice A2 l.length cap).ownBlock.toList w3 w4 := Chg.grown ((Chg.refl _ w3).alloc _) hgrow (fun k hk => .inl (by simp [hk]))
          have hG4 := HG3.out.keep hC4 (fun x hx hm => HD3.out x hx (by simpa using hm))
          have hsub : ∀ x, (Value.slice (some ⟨g4, 0, none⟩) (l.length + 1) cap4).ownBlock = some x → (Value.slice A2 l.length cap).ownBlock = some x ∨ w3.heap.size ≤ x := by
            intro x hx
            rcases hblk with h1 | h1
            · exact .inl (by rw [← h1]; exact hx)
            · rw [h1] at hx; simp at hx; exact .inr (by omega)
          have hO4 := HO3.out.step (hC4.mono (F' := F3 ++ (Value.slice A2 l.length cap).ownBlock.toList) (fun x hx => .inl (by simp at hx; simp [hx]))) (F' := F3 ++ (Value.slice (some ⟨g4, 0, none⟩) (l.length + 1) cap4).ownBlock.toList) (by
            intro x hx
            rcases List.mem_append.1 hx with h1 | h1
            · exact .inl (by simp [h1])
            · rcases hsub x (by simpa using h1) with h2 | h2
              · exact .inl (by simp [h2])
              · exact .inr h2)
          have hd4 : ∀ x ∈ F3, (Value.slice (some ⟨g4, 0, none⟩) (l.length + 1) cap4).ownBlock ≠ some x := by
            intro x hx he
            rcases hsub x he with h2 | h2
            · exact HD3.out x hx h2
            · have := HG3.out.lt x hx; omega
          have HG4 := Lib.hid hG4
          have HV4 := Lib.hid (show w4.ownsRow 0 26 1 (.slice (some ⟨g4, 0, none⟩) (l.length + 1) cap4) (l ++ [D k 1]).length ((l ++ [D k 1]).map (.int .i64)) by simpa using hown)
          have HO4 := Lib.hid hO4
          have HD4 := Lib.hid hd4
          have HLL := Lib.hid (show (((l ++ [D k 1]).length : Nat) : Int) = (l.length : Int) + 1 by simp)
          clear hG4 hown hO4 hd4 hsub hblk hgrow hC4
          unfold maxLen at hcm4
          go_wp2_with fail
          refine (Len HG4.out).mono ?_
          rintro e w' ⟨rfl, rfl⟩
          rw [HLL.out]
          go_wp2_with fail
          refine (Over HG4.out).mono ?_
          rintro e w' ⟨rfl, rfl⟩
          go_wp2_with fail
          go_roundw
          case rel => exact ⟨k + 1, l ++ [D k 1], ov, by omega, by go_num, rfl, ⟨F3, HG4.out, HV4.out, HD4.out, HO4.out⟩, by rw [HLL.out]; omega⟩
          case measure => simp [intOf]; omega
        · have HC0 := Lib.hid ((Chg.refl [] wr).alloc (.cells #[.int .i64 (D k 0), .int .i64 (D k 1)] 36))
          have HB0 := Lib.hid (Blk.new wr 36 #[.int .i64 (D k 0), .int .i64 (D k 1)])
          have HG0 := Lib.hid (HG.out.keep HC0.out (by simp))
          have HV0 := Lib.hid (HC0.out.row HV.out (by simp))
          have HO0 := Lib.hid (show Own w (F ++ (Value.slice A2 l.length cap).ownBlock.toList) (wr.alloc _) from HO.out.same (HC0.out.mono (by simp)))
          go_wp2_with fail
          refine (PushNo HG0.out _ (by omega)).mono ?_
          rintro e w3 ⟨rfl, hG3, hC3⟩
          have hB3 := hC3.blk HB0.out (fun hm => by have := HG.out.lt _ hm; omega)
          have HV3 := Lib.hid (hC3.row HV0.out (fun x hx hm => HD.out x hm hx))
          have HO3 := Lib.hid (HO0.out.same (hC3.mono (F' := F ++ (Value.slice A2 l.length cap).ownBlock.toList) (fun x hx => .inl (by simp [hx]))))
          have HG3 := Lib.hid hG3
          clear hG3 hB3 hC3
          go_wp2_with fail
          refine (Len HG3.out).mono ?_
          rintro e w' ⟨rfl, rfl⟩
          go_wp2_with fail
          refine (Over HG3.out).mono ?_
          rintro e w' ⟨rfl, rfl⟩
          go_wp2_with fail
          go_roundw
          case rel => exact ⟨k + 1, l, true, by omega, by go_num, rfl, ⟨F, HG3.out, HV3.out, HD.out, HO3.out⟩, hlR⟩
          case measure => simp [intOf]; omega
      · by_cases hl : l = []
        · have HC0 := Lib.hid ((Chg.refl [] wr).alloc (.cells #[.int .i64 (D k 0), .int .i64 (D k 1)] 36))
          have _HB0 := Lib.hid (Blk.new wr 36 #[.int .i64 (D k 0), .int .i64 (D k 1)])
          have HG0 := Lib.hid (HG.out.keep HC0.out (by simp))
          have HV0 := Lib.hid (HC0.out.row HV.out (by simp))
          have HO0 := Lib.hid (show Own w (F ++ (Value.slice A2 l.length cap).ownBlock.toList) (wr.alloc _) from HO.out.same (HC0.out.mono (by simp)))
          subst hl
          go_wp2_with fail
          refine (PopNo HG0.out).mono ?_
          rintro e w' ⟨rfl, rfl⟩
          go_wp2_with fail
          refine (Len HG0.out).mono ?_
          rintro e w' ⟨rfl, rfl⟩
          go_wp2_with fail
          refine (Over HG0.out).mono ?_
          rintro e w' ⟨rfl, rfl⟩
          go_wp2_with fail
          go_roundw
          case rel => exact ⟨k + 1, [], ov, by omega, by go_num, rfl, ⟨F, HG0.out, HV0.out, HD.out, HO0.out⟩, hlR⟩
          case measure => simp [intOf]; omega
        · obtain ⟨l0, r, rfl⟩ : ∃ l0 r, l = l0 ++ [r] := ⟨l.dropLast, l.getLast hl, (List.dropLast_concat_getLast hl).symm⟩
          have hll : (l0 ++ [r]).length = l0.length + 1 := by simp
          rw [hll] at HV HO HD hlR hcap
          have HLL := Lib.hid hll
          clear hll
          have HC0 := Lib.hid ((Chg.refl [] wr).alloc (.cells #[.int .i64 (D k 0), .int .i64 (D k 1)] 36))
          have _HB0 := Lib.hid (Blk.new wr 36 #[.int .i64 (D k 0), .int .i64 (D k 1)])
          have HG0 := Lib.hid (HG.out.keep HC0.out (by simp))
          have HV0 := Lib.hid (HC0.out.row HV.out (by simp))
          have HO0 := Lib.hid (show Own w (F ++ (Value.slice A2 (l0.length + 1) cap).ownBlock.toList) (wr.alloc _) from HO.out.same (HC0.out.mono (by simp)))
          obtain ⟨g, cap', he, _, _, hg⟩ := row_some HV0.out (by omega)
          cases he
          have hcr := row_cell HV0.out l0.length (.int .i64 r) (by simp)
          go_wp2_with fail
          refine (PopYes HG0.out).mono ?_
          rintro e w3 ⟨rfl, hG3, hC3⟩
          have hV3 := hC3.row HV0.out (fun x hx hm => HD.out x hm hx)
          have hcr := row_cell hV3 l0.length (.int .i64 r) (by simp)
          have HV3 := Lib.hid (ownsRow_pop (n := l0.length) (size := 1) (xs := l0.map (.int .i64)) (last := [.int .i64 r]) (by simp) (by simpa using hV3))
          have HO3 := Lib.hid (show Own w (F ++ (Value.slice (some ⟨g, 0, none⟩) l0.length cap).ownBlock.toList) w3 from HO0.out.same (hC3.mono (fun x hx => .inl (by simp [hx]))))
          have HD3 : Hid (∀ x ∈ F, (Value.slice (some ⟨g, 0, none⟩) l0.length cap).ownBlock ≠ some x) := Lib.hid HD.out
          have HG3 := Lib.hid hG3
          clear hG3 hC3 hV3
          rw [HLL.out]
          go_wp2_with fail
          refine (Len HG3.out).mono ?_
          rintro e w' ⟨rfl, rfl⟩
          go_wp2_with fail
          refine (Over HG3.out).mono ?_
          rintro e w' ⟨rfl, rfl⟩
          go_wp2_with fail
          go_roundw
          case rel => exact ⟨k + 1, l0, ov, by omega, by go_num, rfl, ⟨F, HG3.out, HV3.out, HD3.out, HO3.out⟩, by omega⟩
          case measure => simp [intOf]; omega
      · by_cases hl : l = []
        · have HC0 := Lib.hid ((Chg.refl [] wr).alloc (.cells #[.int .i64 (D k 0), .int .i64 (D k 1)] 36))
          have _HB0 := Lib.hid (Blk.new wr 36 #[.int .i64 (D k 0), .int .i64 (D k 1)])
          have HG0 := Lib.hid (HG.out.keep HC0.out (by simp))
          have HV0 := Lib.hid (HC0.out.row HV.out (by simp))
          have HO0 := Lib.hid (show Own w (F ++ (Value.slice A2 l.length cap).ownBlock.toList) (wr.alloc _) from HO.out.same (HC0.out.mono (by simp)))
          subst hl
          go_wp2_with fail
          refine (PopNo HG0.out).mono ?_
          rintro e w' ⟨rfl, rfl⟩
          go_wp2_with fail
          refine (Len HG0.out).mono ?_
          rintro e w' ⟨rfl, rfl⟩
          go_wp2_with fail
          refine (Over HG0.out).mono ?_
          rintro e w' ⟨rfl, rfl⟩
          go_wp2_with fail
          go_roundw
          case rel => exact ⟨k + 1, [], ov, by omega, by go_num, rfl, ⟨F, HG0.out, HV0.out, HD.out, HO0.out⟩, hlR⟩
          case measure => simp [intOf]; omega
        · obtain ⟨l0, r, rfl⟩ : ∃ l0 r, l = l0 ++ [r] := ⟨l.dropLast, l.getLast hl, (List.dropLast_concat_getLast hl).symm⟩
          have hll : (l0 ++ [r]).length = l0.length + 1 := by simp
          rw [hll] at HV HO HD hlR hcap
          have HLL := Lib.hid hll
          clear hll
          have HC0 := Lib.hid ((Chg.refl [] wr).alloc (.cells #[.int .i64 (D k 0), .int .i64 (D k 1)] 36))
          have _HB0 := Lib.hid (Blk.new wr 36 #[.int .i64 (D k 0), .int .i64 (D k 1)])
          have HG0 := Lib.hid (HG.out.keep HC0.out (by simp))
          have HV0 := Lib.hid (HC0.out.row HV.out (by simp))
          have HO0 := Lib.hid (show Own w (F ++ (Value.slice A2 (l0.length + 1) cap).ownBlock.toList) (wr.alloc _) from HO.out.same (HC0.out.mono (by simp)))
          obtain ⟨g, cap', he, _, _, hg⟩ := row_some HV0.out (by omega)
          cases he
          have hcr := row_cell HV0.out l0.length (.int .i64 r) (by simp)
          go_wp2_with fail
          refine (PopYes HG0.out).mono ?_
          rintro e w3 ⟨rfl, hG3, hC3⟩
          have hV3 := hC3.row HV0.out (fun x hx hm => HD.out x hm hx)
          have hcr := row_cell hV3 l0.length (.int .i64 r) (by simp)
          have HV3 := Lib.hid (ownsRow_pop (n := l0.length) (size := 1) (xs := l0.map (.int .i64)) (last := [.int .i64 r]) (by simp) (by simpa using hV3))
          have HO3 := Lib.hid (show Own w (F ++ (Value.slice (some ⟨g, 0, none⟩) l0.length cap).ownBlock.toList) w3 from HO0.out.same (hC3.mono (fun x hx => .inl (by simp [hx]))))
          have HD3 : Hid (∀ x ∈ F, (Value.slice (some ⟨g, 0, none⟩) l0.length cap).ownBlock ≠ some x) := Lib.hid HD.out
          have HG3 := Lib.hid hG3
          clear hG3 hC3 hV3
          rw [HLL.out]
          go_wp2_with fail
          refine (Len HG3.out).mono ?_
          rintro e w' ⟨rfl, rfl⟩
          go_wp2_with fail
          refine (Over HG3.out).mono ?_
          rintro e w' ⟨rfl, rfl⟩
          go_wp2_with fail
          go_roundw
          case rel => exact ⟨k + 1, l0, ov, by omega, by go_num, rfl, ⟨F, HG3.out, HV3.out, HD3.out, HO3.out⟩, by omega⟩
          case measure => simp [intOf]; omega
      · have HC0 := Lib.hid ((Chg.refl [] wr).alloc (.cells #[.int .i64 (D k 0), .int .i64 (D k 1)] 36))
        have _HB0 := Lib.hid (Blk.new wr 36 #[.int .i64 (D k 0), .int .i64 (D k 1)])
        have HG0 := Lib.hid (HG.out.keep HC0.out (by simp))
        have HV0 := Lib.hid (HC0.out.row HV.out (by simp))
        have HO0 := Lib.hid (show Own w (F ++ (Value.slice A2 l.length cap).ownBlock.toList) (wr.alloc _) from HO.out.same (HC0.out.mono (by simp)))
        go_wp2_with fail
        refine (Settle HG0.out).mono ?_
        rintro e w3 ⟨rfl, hG3, hC3⟩
        have HV3 := Lib.hid (hC3.row HV0.out (fun x hx hm => HD.out x hm hx))
        have HO3 := Lib.hid (HO0.out.same (hC3.mono (F' := F ++ (Value.slice A2 l.length cap).ownBlock.toList) (fun x hx => .inl (by simp [hx]))))
        have HG3 := Lib.hid hG3
        clear hG3 hC3
        go_wp2_with fail
        refine (Len HG3.out).mono ?_
        rintro e w' ⟨rfl, rfl⟩
        go_wp2_with fail
        refine (Over HG3.out).mono ?_
        rintro e w' ⟨rfl, rfl⟩
        go_wp2_with fail
        go_roundw
        case rel => exact ⟨k + 1, l, false, by omega, by go_num, rfl, ⟨F, HG3.out, HV3.out, HD.out, HO3.out⟩, hlR⟩
        case measure => simp [intOf]; omega
      · have HC0 := Lib.hid ((Chg.refl [] wr).alloc (.cells #[.int .i64 (D k 0), .int .i64 (D k 1)] 36))
        have _HB0 := Lib.hid (Blk.new wr 36 #[.int .i64 (D k 0), .int .i64 (D k 1)])
        have HG0 := Lib.hid (HG.out.keep HC0.out (by simp))
        have _HV0 := Lib.hid (HC0.out.row HV.out (by simp))
        have HO0 := Lib.hid (show Own w (F ++ (Value.slice A2 l.length cap).ownBlock.toList) (wr.alloc _) from HO.out.same (HC0.out.mono (by simp)))
        go_wp2_with fail
        refine (Reset HG0.out).mono ?_
        rintro e w3 ⟨rfl, hG3, hC3⟩
        have HO3 := Lib.hid ((HO0.out.same (hC3.mono (F' := F ++ (Value.slice A2 l.length cap).ownBlock.toList) (fun x hx => .inl (by simp [hx])))).part (G := [b] ++ (Value.slice none 0 0).ownBlock.toList) (by intro x hx; simp [Value.ownBlock] at hx; subst hx; simp [HG0.out.mem]))
        have HG3 := Lib.hid hG3
        clear hG3 hC3
        go_wp2_with fail
        refine (Len HG3.out).mono ?_
        rintro e w' ⟨rfl, rfl⟩
        go_wp2_with fail
        refine (Over HG3.out).mono ?_
        rintro e w' ⟨rfl, rfl⟩
        go_wp2_with fail
        go_roundw
        case rel => exact ⟨k + 1, [], false, by omega, by go_num, rfl, ⟨[b], HG3.out, ⟨by simp, .inl ⟨rfl, rfl⟩⟩, by simp [Value.ownBlock], HO3.out⟩, by simp; omega⟩
        case measure => simp [intOf]; omega
    · obtain rfl : k = n := by omega
      obtain ⟨F, hG, hV, hd, hO⟩ := hP2
      have HO := Lib.hid hO
      clear hG hV hd hO
      go_wp2_with fail
      go_ret
      exact ⟨rfl, HO.out.below⟩

end Go.Proofs.Ytamecbanginjmaa
