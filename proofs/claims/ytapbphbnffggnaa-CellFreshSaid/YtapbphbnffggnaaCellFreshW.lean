/-
  The walk of CellFresh. Conditions: as the theorem says.
-/
import Derived.Test.YtapbphbnffggnaaOpen
import Derived.Test.YtapbphbnffggnaaFit04
import Derived.Test.YtapbphbnffggnaaObjC
namespace Go.Proofs.Ytapbphbnffggnaa
set_option linter.unusedVariables false
set_option linter.unusedSimpArgs false
open Go.RowKit Go.Shelf

/-- k fields, of which the first i hold s. -/
def fillG (k i : Nat) (s : Int) : List Int := (List.range k).map fun j => if j < i then s else 0
theorem fillG_zero (k : Nat) (s : Int) : fillG k 0 s = List.replicate k 0 := by
  unfold fillG
  apply List.ext_getElem <;> simp
theorem fillG_length (k i : Nat) (s : Int) : (fillG k i s).length = k := by simp [fillG]
theorem fillG_set (k i : Nat) (s : Int) : (fillG k i s).set i s = fillG k (i + 1) s := by
  unfold fillG
  apply List.ext_getElem
  · simp
  · intro j h1 h2
    simp [List.getElem_set]
    by_cases e : i = j
    · subst e; simp
    · simp [e]
      by_cases e2 : j < i
      · simp [e2]; omega
      · simp [e2]; omega

set_option maxRecDepth 100000 in
set_option maxHeartbeats 8000000 in
theorem cellFresh_walk (n1 n2 x : Int) (w : World) (h1 : (Lit.int .u8 n1).wf = true) (h2 : (Lit.int .u8 n2).wf = true) (_h3 : (Lit.int .i64 x).wf = true) :
    Calls Try.prog 16 #[.int .u8 n1, .int .u8 n2, .int .i64 x] w fun e w' => e = .returned (.bool true) ∧ Below w.heap.size w w' := by
  have hl1 := wf8 h1
  have hl2 := wf8 h2
  clear h1 h2 _h3
  obtain ⟨k, hk, hk6⟩ : ∃ k : Nat, n1 % 7 = (k : Int) ∧ k ≤ 6 := ⟨(n1 % 7).toNat, by omega, by omega⟩
  obtain ⟨j, hj, hj6⟩ : ∃ j : Nat, n2 % 7 = (j : Int) ∧ j ≤ 6 := ⟨(n2 % 7).toNat, by omega, by omega⟩
  go_enter Try.func16, Try.ntmps16
  go_wp2_with (first
    | (go_at_call 39; refine (fit04 _).mono ?_; rintro e w1 ⟨rfl, hC⟩; have HS0 := Lib.hid ((Sep.start w).same hC); clear hC)
    | (go_at_call 18; refine (TANew HS0.out 1 1 (by decide)).mono ?_; rintro e w2 ⟨a, ids, rfl, hs⟩; have HS2 := Lib.hid hs; clear hs HS0; have HW := Lib.hid (AR.new_wf 1 ids (by omega)); have HT := Lib.hid (new_total 1 ids (by omega)))
    | (go_at_call 46; refine (ONew HS2.out 0 rfl HW.out k hk6 (by rw [HT.out.1, HT.out.2.1]; decide)).mono ?_; rintro e w3 ⟨r, A1, rfl, hs, hN⟩; have HS3 := Lib.hid hs; clear hs HS2; have HN1 := Lib.hid hN; clear hN))
  have HTK := Lib.hid (show ∀ q, A1.tk q = decide (q = r) by intro q; simp [HN1.out.tk, HT.out.2.2])
  have hr1 := HN1.out.first HT.out.2.2
  have er : (r : Int) = 1 := by rw [hr1]; rfl
  simp only [er]
  clear er
  subst hr1
  have HN := Lib.hid (show A1.n = 1 from HN1.out.n)
  have HO := Lib.hid (show Obj A1 1 (fillG k 0 1) 0 by rw [fillG_zero]; exact HN1.out.obj)
  have HW1 := Lib.hid HN1.out.wf
  clear HN1 HW HT
  go_loopw [39] (fun i wr => ∃ (m : Nat) (B : AR), m ≤ k ∧ i = .int .i64 m ∧ B.Wf ∧ B.n = 1 ∧ (∀ q, B.tk q = decide (q = 1)) ∧ Obj B 1 (fillG k m 1) 0 ∧ Sep w wr (arenaR a B :: [])) (fun i _ => k + 1 - (intOf i).toNat)
  case atStart => exact ⟨0, _, by omega, rfl, HW1.out, HN.out, HTK.out, HO.out, HS3.out⟩
  case round =>
    clear HS3 HTK HN HO HW1
    obtain ⟨m, B, hm, rfl, hwf, hn, htk, ho, hs⟩ := hrel
    have HS := Lib.hid hs
    have HW := Lib.hid hwf
    have HN := Lib.hid hn
    have HTK := Lib.hid htk
    have HO := Lib.hid ho
    clear hs hwf hn htk ho
    by_cases hlt : m < k
    · have HC := Lib.hid (OSetField HS.out 0 rfl HW.out HO.out m (by rw [fillG_length]; omega) 1)
      go_wp2_with (go_at_call 44; refine (HC.out).mono ?_; rintro e w5 ⟨B', rfl, hs, hst, ho⟩; have HS6 := Lib.hid hs; clear hs HS HC; have HST := Lib.hid hst; have HO2 := Lib.hid ho; clear hst ho)
      go_roundw
      case rel => exact ⟨m + 1, B', by omega, by go_num, HST.out.wf, HST.out.n.trans HN.out, by rw [HST.out.tk]; exact HTK.out, by rw [← fillG_set]; exact HO2.out, HS6.out⟩
      case measure => simp [intOf]; omega
    · obtain rfl : m = k := by omega
      have HC := Lib.hid (OSetScalar HS.out 0 rfl HW.out HO.out x)
      go_wp2_with (first
        | (go_at_call 45; refine (HC.out).mono ?_; rintro e w5 ⟨B', rfl, hs, hst, ho⟩; have HS6 := Lib.hid hs; clear hs HS HC; have HST := Lib.hid hst; clear hst ho; have HC := Lib.hid (TAGive HS6.out 0 rfl HST.out.wf 1))
        | (go_at_call 24; refine (HC.out).mono ?_; rintro e w6 ⟨rfl, hs⟩; have HS7 := Lib.hid hs; clear hs HS6 HC))
      have hhas : B'.has ((1 : Nat) : Int) = true := by rw [HST.out.wf.has, HST.out.tk, HTK.out]; simp
      have HG := Lib.hid (HST.out.wf.give_wf 1)
      have HE := Lib.hid (show ∀ q, (B'.give 1).tk q = false by
        intro q
        have := give_tk B' 1 hhas
        rw [show ((1 : Nat) : Int) = 1 from rfl] at this
        rw [this, HST.out.tk]
        simp [HTK.out])
      have HGN := Lib.hid (show (B'.give 1).n = 1 by rw [give_n, HST.out.n, HN.out])
      have HC := Lib.hid (ONew HS7.out 0 rfl HG.out j hj6 (by rw [(HG.out.empty HE.out).2.1, HGN.out]; decide))
      clear hhas
      go_wp2_with (first
        | (go_at_call 46; refine (HC.out).mono ?_; rintro e w7 ⟨s, A2, rfl, hs, hN⟩; obtain rfl : s = 1 := hN.first HE.out; rw [show ((1 : Nat) : Int) = 1 from rfl]; have HS8 := Lib.hid hs; clear hs HS7 HC; have HN2 := Lib.hid hN; clear hN; have HC := Lib.hid (OFields HS8.out 0 rfl HN2.out.wf HN2.out.obj))
        | (go_at_call 41; refine (HC.out).mono ?_; rw [List.length_replicate]; rintro e w8 ⟨rfl, hs⟩; have HS9 := Lib.hid hs; clear hs HS8 HC))
      have HO2 := Lib.hid HN2.out.obj
      have HW2 := Lib.hid HN2.out.wf
      clear HN2 HG HE HGN HST HN HTK HO HW
      go_loopw [76] (fun i wr => ∃ (m : Nat), m ≤ j ∧ i = .int .i64 m ∧ Sep w wr (arenaR a A2 :: [])) (fun i _ => j + 1 - (intOf i).toNat)
      case atStart => exact ⟨0, by omega, rfl, HS9.out⟩
      case round =>
        clear HS9
        obtain ⟨q, hq, rfl, hs⟩ := hrel
        have HS := Lib.hid hs
        clear hs
        by_cases hlt : q < j
        · have HC := Lib.hid (OField HS.out 0 rfl HW2.out HO2.out q 0 (by rw [List.getElem?_replicate, if_pos hlt]))
          go_wp2_with (go_at_call 42; refine (HC.out).mono ?_; rintro e w5 ⟨rfl, hs⟩; have HS6 := Lib.hid hs; clear hs HS HC)
          go_roundw
          case rel => exact ⟨q + 1, by omega, by go_num, HS6.out⟩
          case measure => simp [intOf]; omega
        · obtain rfl : q = j := by omega
          have HC := Lib.hid (OScalar HS.out 0 rfl HW2.out HO2.out)
          go_wp2_with (first
            | (go_at_call 43; refine (HC.out).mono ?_; rintro e w5 ⟨rfl, hs⟩; have HS6 := Lib.hid hs; clear hs HS HC; have HC := Lib.hid (OFieldOut HS6.out 0 rfl HW2.out HO2.out (q : Int) (by rw [List.length_replicate]; omega)))
            | (go_at_call 42; refine (HC.out).mono ?_; rintro e w6 ⟨rfl, hs⟩; have HS7 := Lib.hid hs; clear hs HS6 HC))
          go_ret
          exact ⟨rfl, HS7.out.below⟩
end Go.Proofs.Ytapbphbnffggnaa
