/-
  The walk of CellRuns. Conditions: as the theorem says.
-/
import Derived.Test.YtapbphbnffggnaaOpen
import Derived.Test.YtapbphbnffggnaaFit04
import Derived.Test.YtapbphbnffggnaaMade
namespace Go.Proofs.Ytapbphbnffggnaa
set_option linter.unusedVariables false
set_option linter.unusedSimpArgs false
open Go.RowKit Go.Shelf

set_option maxRecDepth 100000 in
set_option maxHeartbeats 8000000 in
theorem cellRuns_walk (A : Option Addr) (n c : Nat) (D : Nat → Nat → Int) (pages : Int) (w : World) (hz : ArgI w A n [.i64, .i64, .i64, .i64] D) (hm : n ≤ maxLen) (hp : (Lit.int .i64 pages).wf = true) :
    Calls Try.prog 11 #[.slice A n c, .int .i64 pages] w fun e w' => e = .returned (.bool true) ∧ Below w.heap.size w w' := by
  have HZ := Lib.hid hz
  unfold maxLen at hm
  have ha := and_7 pages
  obtain ⟨P, hP⟩ : ∃ P : Nat, pages % 8 = (P : Int) := ⟨(pages % 8).toNat, by omega⟩
  rw [hP] at ha
  have hP7 : P ≤ 7 := by omega
  have hadd : IntKind.i64.wrap (1 + (P : Int)) = 1 + (P : Int) := by rw [IntKind.wrap_i64]; omega
  clear hz hp hP
  go_enter Try.func11, Try.ntmps11
  by_cases hn : 80 < n
  · go_wp2_with (go_at_call 39; refine (fit04 _).mono ?_; rintro e w1 ⟨rfl, hC⟩; have HS0 := Lib.hid ((Sep.start w).same hC); clear hC)
    go_ret
    exact ⟨rfl, HS0.out.below⟩
  go_wp2_with (first
    | (go_at_call 39; refine (fit04 _).mono ?_; rintro e w1 ⟨rfl, hC⟩; have HS0 := Lib.hid ((Sep.start w).same hC); clear hC)
    | (go_at_call 18; refine (TANew HS0.out (1 + (P : Int)) (1 + P) (by omega)).mono ?_; rintro e w2 ⟨a, ids, rfl, hs⟩; have HS2 := Lib.hid hs; clear hs HS0; have HW := Lib.hid (AR.new_wf (1 + P) ids (by omega)))
    | (go_at_call 40; refine (Made04 A n c D HZ.out (by omega) _ HW.out HS2.out).mono ?_; rintro e w3 ⟨v, ts, B, rfl, hlen, hlk, hs⟩; have HS3 := Lib.hid hs; clear hs HS2 HW; have HLK := Lib.hid hlk; clear hlk; obtain ⟨AA, cap, rfl, hcap, hcm⟩ := HS3.out.rowShape 1 rfl; unfold maxLen at hcm; obtain ⟨Ln, hLn⟩ : ∃ Ln, ts.length = Ln := ⟨_, rfl⟩; have HLN := Lib.hid hLn; rw [hLn] at hlen hcap HS3 ⊢; clear hLn))
  go_loopw [35] (fun i wr => ∃ k : Nat, k ≤ Ln ∧ i = .int .i64 k ∧ Sep w wr (arenaR a B :: rowR 66 1 (.slice AA Ln cap) Ln (ts.map encT) :: thingsR ts :: [])) (fun i _ => Ln + 1 - (intOf i).toNat)
  case atStart => exact ⟨0, by omega, rfl, HS3.out⟩
  case round =>
    clear HS3
    obtain ⟨k, hk, rfl, hs⟩ := hrel
    by_cases hlt : k < Ln
    · obtain ⟨g, cap', hsl, _, _⟩ := hs.rowSome 1 rfl (by omega)
      simp only [Value.slice.injEq] at hsl
      obtain ⟨rfl, _, rfl⟩ := hsl
      obtain ⟨t, ht⟩ : ∃ t, ts[k]? = some t := ⟨_, List.getElem?_eq_getElem (by rw [HLN.out]; exact hlt)⟩
      have HK := Lib.hid ht
      have HO := Lib.hid (HLK.out.obj k t ht)
      have hcp := hs.rowCell 1 rfl k (encT t) (by rw [List.getElem?_map, ht]; rfl)
      unfold encT at hcp
      have HS := Lib.hid hs
      have hltI : (k : Int) < (Ln : Int) := by omega
      have h6 := HO.out.six
      clear ht hs
      go_wp2_with fail
      go_simp
      refine region_sep HS.out (by kernel_rfl) (by kernel_rfl) ?_
      intro hne0
      have y0 : ∀ x : SepW w (arenaR a B :: rowR 66 1 (.slice (some ⟨g, 0, none⟩) Ln cap) Ln (ts.map encT) :: thingsR ts :: []), x.w'.cell? ⟨t.g, 0, none⟩ = some (.int .i64 (t.r : Int)) := fun x => by
        have := (((x.h.front 3 [2, 0, 1]).thingOut HK.out).blk 0 rfl).cell 0
        simpa using this
      have y1 : ∀ x : SepW w (arenaR a B :: rowR 66 1 (.slice (some ⟨g, 0, none⟩) Ln cap) Ln (ts.map encT) :: thingsR ts :: []), x.w'.cell? ⟨t.g, 1, none⟩ = some (.slice (some ⟨t.h, 0, none⟩) t.fs.length t.fs.length) := fun x => by
        have := (((x.h.front 3 [2, 0, 1]).thingOut HK.out).blk 0 rfl).cell 1
        simpa using this
      repeat (go_big_quiet_step (first
        | (go_at_call 41; exact sep_calls (OFields (SepW.h _) 0 rfl HLK.out.wf HO.out))))
      refine wpQuiet_nil ?_
      rintro wq ⟨⟨wqx, hs⟩, rfl⟩
      clear y0 y1 hne0
      have HS1 := Lib.hid hs
      have ut := (hs.front 3 [2, 0, 1]).thingOut HK.out
      have u0 := (ut.blk 0 rfl).cell 0
      have u1 := (ut.blk 0 rfl).cell 1
      have u2 := (ut.blk 0 rfl).cell 2
      simp only [List.getElem?_toArray, List.getElem?_cons_zero, List.getElem?_cons_succ] at u0 u1 u2
      clear HS hs ut hcp
      go_wp2_with fail
      obtain ⟨Fn, hFn⟩ : ∃ Fn, t.fs.length = Fn := ⟨_, rfl⟩
      have HFN := Lib.hid hFn
      rw [hFn] at u1 h6
      simp only [hFn]
      clear hFn
      go_loopw [56] (fun i wr => ∃ m : Nat, m ≤ Fn ∧ i = .int .i64 m ∧ Sep w wr (arenaR a B :: rowR 66 1 (.slice (some ⟨g, 0, none⟩) Ln cap) Ln (ts.map encT) :: thingsR ts :: [])) (fun i _ => Fn + 1 - (intOf i).toNat)
      case atStart => exact ⟨0, by omega, rfl, HS1.out⟩
      case round =>
        clear HS1 u0 u1 u2
        obtain ⟨m, hm, rfl, hs⟩ := hrel
        have ut := (hs.front 3 [2, 0, 1]).thingOut HK.out
        have u0 := (ut.blk 0 rfl).cell 0
        have u1 := (ut.blk 0 rfl).cell 1
        have u2 := (ut.blk 0 rfl).cell 2
        simp only [List.getElem?_toArray, List.getElem?_cons_zero, List.getElem?_cons_succ] at u0 u1 u2
        by_cases hlt2 : m < Fn
        · obtain ⟨y, hy⟩ : ∃ y, t.fs[m]? = some y := ⟨_, List.getElem?_eq_getElem (by rw [HFN.out]; exact hlt2)⟩
          have v0 := (ut.blk 1 rfl).cell m
          rw [show (fieldCells t.fs)[m]? = some (.int .i64 y) by simp [fieldCells, hy]] at v0
          have HC := Lib.hid (OField hs 0 rfl HLK.out.wf HO.out m y hy)
          rw [HFN.out] at u1
          clear hs ut hy
          go_wp2_with (go_at_call 42; refine (HC.out).mono ?_; rintro e w5 ⟨rfl, hs⟩; have HS6 := Lib.hid hs; clear hs HC)
          go_roundw
          case rel => exact ⟨m + 1, by omega, by go_num, HS6.out⟩
          case measure => simp [intOf]; omega
        · obtain rfl : m = Fn := by omega
          have HC := Lib.hid (OScalar hs 0 rfl HLK.out.wf HO.out)
          clear hs ut
          go_wp2_with (go_at_call 43; refine (HC.out).mono ?_; rintro e w5 ⟨rfl, hs⟩; have zt := (hs.front 3 [2, 0, 1]).thingOut HK.out; have z0 := (zt.blk 0 rfl).cell 0; have z1 := (zt.blk 0 rfl).cell 1; have z2 := (zt.blk 0 rfl).cell 2; simp only [List.getElem?_toArray, List.getElem?_cons_zero, List.getElem?_cons_succ] at z0 z1 z2; clear zt; have HS6 := Lib.hid hs; clear hs HC)
          go_roundw
          case rel => exact ⟨k + 1, by omega, by go_num, HS6.out⟩
          case measure => simp [intOf]; omega
    · obtain rfl : k = Ln := by omega
      have HS := Lib.hid hs
      clear hs
      go_wp2_with fail
      go_ret
      exact ⟨rfl, HS.out.below⟩
end Go.Proofs.Ytapbphbnffggnaa
