/-
  The walk of CellNone. Conditions: as the theorem says.
-/
import Derived.Test.YtapbphbnffggnaaOpen
import Derived.Test.YtapbphbnffggnaaFit04
import Derived.Test.YtapbphbnffggnaaObjC
import Derived.Test.YtapbphbnffggnaaRow
import Derived.Test.YtapbphbnffggnaaInfo
import Derived.Test.YtapbphbnffggnaaBits
namespace Go.Proofs.Ytapbphbnffggnaa
set_option linter.unusedVariables false
set_option linter.unusedSimpArgs false
open Go.RowKit Go.Shelf

theorem and_255m7 (x : Int) : ∃ k : Nat, (x % 256).tmod 7 = (k : Int) ∧ k ≤ 6 := by
  refine ⟨(x % 256 % 7).toNat, ?_, by omega⟩
  rw [Int.tmod_eq_emod_of_nonneg (by omega)]
  omega

set_option maxRecDepth 100000 in
set_option maxHeartbeats 8000000 in
theorem cellNone_walk (n1 i tv : Int) (w : World) (h1 : (Lit.int .i64 n1).wf = true) (h2 : (Lit.int .i64 i).wf = true) (_h3 : (Lit.int .i64 tv).wf = true) :
    Calls Try.prog 12 #[.int .i64 n1, .int .i64 i, .int .i64 tv] w fun e w' => e = .returned (.bool true) ∧ Below w.heap.size w w' := by
  have hand := and_255 n1
  obtain ⟨k, hk, hk6⟩ := and_255m7 n1
  clear h1 h2 _h3
  go_enter Try.func12, Try.ntmps12
  go_wp2_with (first
    | (go_at_call 39; refine (fit04 _).mono ?_; rintro e w1 ⟨rfl, hC⟩; have HS0 := Lib.hid ((Sep.start w).same hC); clear hC)
    | (go_at_call 18; refine (TANew HS0.out 1 1 (by decide)).mono ?_; rintro e w2 ⟨a, ids, rfl, hs⟩; have HW := Lib.hid (AR.new_wf 1 ids (by omega)); have HT := Lib.hid (new_total 1 ids (by omega)); have HC := Lib.hid (CFieldNo hs 0 rfl HW.out 0 i (by omega) (by rw [checkZ_nil]; decide)); clear hs HS0)
    | (go_at_call 42; refine (HC.out).mono ?_; rw [checkZ_nil]; rintro e w3 ⟨rfl, hs⟩; have HS3 := Lib.hid hs; clear hs HC; have HC := Lib.hid (CScalarNil w3 a))
    | (go_at_call 43; refine (HC.out).mono ?_; rintro e w4 ⟨rfl, rfl⟩; clear HC; have HC := Lib.hid (CSetFieldNo HS3.out 0 rfl HW.out 0 i tv (by omega) (by rw [checkZ_nil]; decide)); clear HS3)
    | (go_at_call 44; refine (HC.out).mono ?_; rw [checkZ_nil]; rintro e w5 ⟨rfl, hs⟩; have HS4 := Lib.hid hs; clear hs HC; have HC := Lib.hid (CSetScalarNil w5 a i))
    | (go_at_call 45; refine (HC.out).mono ?_; rintro e w6 ⟨rfl, rfl⟩; clear HC; have HC := Lib.hid (CFields HS4.out 0 rfl HW.out 0 (by omega)); clear HS4)
    | (go_at_call 41; refine (HC.out).mono ?_; rw [wordZ_nil HW.out]; rintro e w7 ⟨rfl, hs⟩; have HS5 := Lib.hid hs; clear hs HC))
  have hs := HS5.out.nilRow 26 1
  have hN : Sep w w7 [arenaR a (AR.new 1 ids), rowR 26 1 (.slice none 0 0) 0 []] := hs.swap
  have HS6 := Lib.hid hN
  clear hs hN HS5
  go_loopw [13] (fun v wr => ∃ (rs : List Nat) (B : AR), rs.length ≤ 16 ∧ B.Wf ∧ B.n = 1 ∧ B.total = (rs.length : Int) ∧ (∀ (x r : Nat), rs[x]? = some r → Obj B r (List.replicate k 0) (x : Int)) ∧ ((rs = [] → B.take (classZ (k : Int)) ≠ none)) ∧ Sep w wr [arenaR a B, rowR 26 1 v rs.length (rs.map fun r => Value.int .i64 ((r : Nat) : Int))]) (fun v _ => 17 - (match v with | .slice _ n _ => n | _ => 0))
  case atStart =>
    refine ⟨[], _, by simp, HW.out, HT.out.2.1, by rw [HT.out.1]; rfl, by simp, ?_, HS6.out⟩
    intro _ h
    obtain ⟨_, h0, h2, _⟩ := class_room (k : Int) (by omega) (by omega)
    obtain ⟨r, A', e⟩ := HW.out.has_room h0 h2 (by rw [HT.out.1, HT.out.2.1]; decide)
    rw [h] at e
    cases e
  case round =>
    clear HS6 HW HT
    obtain ⟨rs, B, hlen, hwf, hn, ht, hob, hne, hs⟩ := hrel
    obtain ⟨AA, cap, rfl, hcap, hcm⟩ := hs.rowShape 1 rfl
    unfold maxLen at hcm
    have HS := Lib.hid hs
    have HW := Lib.hid hwf
    have HN := Lib.hid hn
    have HT := Lib.hid ht
    have HOB := Lib.hid hob
    have HNE := Lib.hid hne
    clear hs hwf hn ht hob hne
    cases hta : B.take (classZ (k : Int)) with
    | none =>
      have HC := Lib.hid (CNewNone HS.out 0 rfl HW.out (k : Int) (by omega) (by omega) hta)
      have hrs : ¬ rs = [] := fun e => HNE.out e hta
      have hpos : 0 < rs.length := by cases rs with | nil => exact absurd rfl hrs | cons _ _ => simp
      clear hta hrs HNE
      go_wp2_with (go_at_call 46; refine (HC.out).mono ?_; rintro e w5 ⟨rfl, hs⟩; have HS6 := Lib.hid hs; clear hs HS HC)
      obtain ⟨Ln, hLn⟩ : ∃ Ln, rs.length = Ln := ⟨_, rfl⟩
      have HLN := Lib.hid hLn
      rw [hLn] at hlen hcap hpos HS6 ⊢
      clear hLn
      go_loopw [89] (fun i wr => ∃ (m : Nat), m ≤ Ln ∧ i = .int .i64 m ∧ Sep w wr [arenaR a B, rowR 26 1 (.slice AA Ln cap) Ln (rs.map fun r => Value.int .i64 ((r : Nat) : Int))]) (fun i _ => Ln + 1 - (intOf i).toNat)
      case atStart => exact ⟨0, by omega, rfl, HS6.out⟩
      case round =>
        clear HS6
        obtain ⟨m, hm, rfl, hs⟩ := hrel
        have HS := Lib.hid hs
        clear hs
        by_cases hlt : m < Ln
        · obtain ⟨g, cap', hsl, _, _⟩ := HS.out.rowSome 1 rfl (by omega)
          simp only [Value.slice.injEq] at hsl
          obtain ⟨rfl, _, rfl⟩ := hsl
          obtain ⟨r, hr⟩ : ∃ r, rs[m]? = some r := ⟨_, List.getElem?_eq_getElem (by rw [HLN.out]; exact hlt)⟩
          have hcr := HS.out.rowCell 1 rfl m (.int .i64 ((r : Nat) : Int)) (by rw [List.getElem?_map, hr]; rfl)
          have HO := Lib.hid (HOB.out m r hr)
          have HC := Lib.hid (OScalar HS.out 0 rfl HW.out HO.out)
          clear hr
          go_wp2_with (first
            | (go_at_call 43; refine (HC.out).mono ?_; rintro e w6 ⟨rfl, hs⟩; have HS7 := Lib.hid hs; clear hs HS HC; have HC := Lib.hid (OFields HS7.out 0 rfl HW.out HO.out))
            | (go_at_call 41; refine (HC.out).mono ?_; rw [List.length_replicate]; rintro e w7 ⟨rfl, hs⟩; have HS8 := Lib.hid hs; clear hs HS7 HC))
          go_roundw
          case rel => exact ⟨m + 1, by omega, by go_num, HS8.out⟩
          case measure => simp [intOf]; omega
        · obtain rfl : m = Ln := by omega
          go_wp2_with fail
          go_ret
          exact ⟨rfl, HS.out.below⟩
    | some y =>
      have hany : Calls Try.prog 46 #[.pointer (some ⟨a, 0, none⟩), .int .i64 (k : Int)] wr fun e w' => ∃ (r : Nat) (A' : AR), e = .returned (.tuple #[.int .i64 (r : Int), .int .i64 0]) ∧ Sep w w' [arenaR a A', rowR 26 1 (.slice AA rs.length cap) rs.length (rs.map fun r => Value.int .i64 ((r : Nat) : Int))] ∧ NewIs B k r A' := by
        refine (ONewAny HS.out 0 rfl HW.out k hk6).mono ?_
        rintro e w5 (⟨h, _⟩ | h)
        · rw [h] at hta; cases hta
        · exact h
      have HC := Lib.hid hany
      clear hany hta
      go_wp2_with (first
        | (go_at_call 46; refine (HC.out).mono ?_; rintro e w5 ⟨r, B1, rfl, hs, hN⟩; have HS6 := Lib.hid hs; clear hs HS HC; have HN1 := Lib.hid hN; clear hN; have HC := Lib.hid (OSetScalar HS6.out 0 rfl HN1.out.wf HN1.out.obj (rs.length : Int)); have h17 : rs.length + 1 ≤ 16 := by (have h1 := HN1.out.wf.total_le; rw [HN1.out.total, HN1.out.n, HN.out, HT.out] at h1; omega))
        | (go_at_call 45; refine (HC.out).mono ?_; rintro e w6 ⟨B2, rfl, hs, hst, ho⟩; have HS7 := Lib.hid hs; clear hs HS6 HC; have HST := Lib.hid hst; have HO := Lib.hid ho; clear hst ho)
        | (at_builtin; refine wpList_append_sep rfl _ _ 32 rfl 26 (.int .i64 0) 1 8 Try.underlying32 refInfo rfl (by decide) HS7.out 1 rfl rfl [.int .i64 ((r : Nat) : Int)] rfl (by simp [Value.oneCell']) rfl (by unfold maxLen; omega) (by omega) ?_; intro g4 cap4 w4 hcap4 hcm4 hs4; have HS8 := Lib.hid hs4; clear hs4))
      go_roundw
      case rel =>
        refine ⟨rs ++ [r], B2, by simp; omega, HST.out.wf, (HST.out.n.trans HN1.out.n).trans HN.out, by rw [HST.out.total, HN1.out.total, HT.out]; simp, ?_, fun h => by simp at h, by simpa using HS8.out⟩
        intro x r' hx
        rw [List.getElem?_append] at hx
        by_cases e : x < rs.length
        · rw [if_pos e] at hx
          obtain ⟨o1, o2⟩ := HN1.out.old _ _ _ (HOB.out x r' hx)
          exact HST.out.old _ _ _ o2 o1
        · rw [if_neg e] at hx
          have hx0 : x - rs.length = 0 := by
            have := (List.getElem?_eq_some_iff.1 hx).1
            simp at this
            omega
          rw [hx0] at hx
          simp at hx
          subst hx
          obtain rfl : x = rs.length := by omega
          exact HO.out
      case measure => simp; omega
end Go.Proofs.Ytapbphbnffggnaa
