/-
  A set of numbers (layer 1) as what it holds: a contract for each of its methods. Conditions: at most 100000 numbers.
-/
import Derived.Test.YtapbphbnffggnaaSetOps
namespace Go.Proofs.Ytapbphbnffggnaa
set_option linter.unusedVariables false
set_option linter.unusedSimpArgs false
open Go.RowKit

/-- The set at block b holds S, of numbers below n. -/
def SetIs (w : World) (b : Nat) (n : Int) (S : Nat → Bool) (lo : Option Nat) : Prop :=
  ∃ W, (∀ k, W k < 18446744073709551616) ∧ (∀ i : Nat, (i : Int) < n → bitOf W i = S i) ∧ SetAt w b n W lo
/-- The blocks that it owns. -/
def setF (b : Nat) (lo : Option Nat) : List Nat := b :: lo.toList

theorem SetAt.keep {w w' : World} {b : Nat} {n : Int} {W : Nat → Nat} {lo : Option Nat} {F : List Nat} (h : SetAt w b n W lo) (hc : Chg F w w') (hF : ∀ x ∈ setF b lo, x ∉ F) : SetAt w' b n W lo := by
  cases lo with
  | none => exact ⟨hc.blk h.1 (hF b (by simp [setF])), h.2⟩
  | some g => exact ⟨hc.blk h.1 (hF b (by simp [setF])), hc.blk h.2.1 (hF g (by simp [setF])), h.2.2⟩
theorem SetIs.keep {w w' : World} {b : Nat} {n : Int} {S : Nat → Bool} {lo : Option Nat} {F : List Nat} (h : SetIs w b n S lo) (hc : Chg F w w') (hF : ∀ x ∈ setF b lo, x ∉ F) : SetIs w' b n S lo := by
  obtain ⟨W, h1, h2, h3⟩ := h
  exact ⟨W, h1, h2, h3.keep hc hF⟩
theorem SetAt.lt {w : World} {b : Nat} {n : Int} {W : Nat → Nat} {lo : Option Nat} (h : SetAt w b n W lo) : ∀ x ∈ setF b lo, x < w.heap.size := by
  cases lo with
  | none => intro x hx; simp [setF] at hx; subst hx; exact h.1.lt
  | some g => intro x hx; simp [setF] at hx; rcases hx with rfl | rfl; exact h.1.lt; exact h.2.1.lt
theorem SetIs.lt {w : World} {b : Nat} {n : Int} {S : Nat → Bool} {lo : Option Nat} (h : SetIs w b n S lo) : ∀ x ∈ setF b lo, x < w.heap.size := by
  obtain ⟨W, h1, h2, h3⟩ := h
  exact h3.lt

/-- The blocks that a set owns behind a call, those that it owned ahead, or new ones. -/
def GrewF (w : World) (F F' : List Nat) : Prop := ∀ x ∈ F', x ∈ F ∨ w.heap.size ≤ x

theorem testBit_word (x r : Nat) : x &&& 2 ^ r = if x.testBit r then 2 ^ r else 0 := by
  apply Nat.eq_of_testBit_eq
  intro i
  rw [Nat.testBit_and, Nat.testBit_two_pow]
  by_cases h : r = i
  · subst h
    cases x.testBit r <;> simp
  · cases x.testBit r <;> simp [h, Nat.testBit_two_pow]

section
variable {w : World} {b : Nat} {n : Int} {S : Nat → Bool} {lo : Option Nat}

theorem SNew (n : Int) (hn : 0 ≤ n) (w : World) : Calls Try.prog 48 #[.int .i64 n] w fun e w' => e = .returned (.pointer (some ⟨w.heap.size, 0, none⟩)) ∧ SetIs w' w.heap.size n (fun _ => false) none ∧ Chg [] w w' := by
  go_enter Try.func48, Try.ntmps48
  go_wp2_with fail
  go_ret
  refine ⟨rfl, ⟨fun _ => 0, by simp, by simp [bitOf], ?_, rfl⟩, ?_⟩
  · exact (Blk.new _ _ _).as_ (by simp [setCells, nilRow]; try omega)
  · exact (Chg.refl _ _).alloc _

theorem SHasOut (h : SetIs w b n S lo) (i : Int) (hi : i < 0 ∨ n ≤ i) :
    Calls Try.prog 56 #[.pointer (some ⟨b, 0, none⟩), .int .i64 i] w fun e w' => e = .returned (.bool false) ∧ w = w' := by
  obtain ⟨W, h1, h2, h3⟩ := h
  go_enter Try.func56, Try.ntmps56
  go_wp2_with fail
  refine (SPlaceOut h3 i hi).mono ?_
  rintro e w' ⟨rfl, rfl⟩
  go_wp2_with fail
  go_ret
  exact ⟨rfl, rfl⟩

set_option maxHeartbeats 1000000 in
theorem SHasIn (h : SetIs w b n S lo) (hn1 : n ≤ 100000) (I : Nat) (hi : (I : Int) < n) :
    Calls Try.prog 56 #[.pointer (some ⟨b, 0, none⟩), .int .i64 (I : Int)] w fun e w' => ∃ lo', e = .returned (.bool (S I)) ∧ SetIs w' b n S lo' ∧ GrewF w (setF b lo) (setF b lo') ∧ Chg (setF b lo) w w' := by
  obtain ⟨W, h1, h2, h3⟩ := h
  have H1 := Lib.hid h1
  have H2 := Lib.hid h2
  have H3 := Lib.hid h3
  clear h1 h2 h3
  go_enter Try.func56, Try.ntmps56
  go_wp2_with fail
  refine (SPlaceIn H3.out hn1 I hi).mono ?_
  rintro e w1 ⟨g, rfl, hs, hg, hc⟩
  have HS := Lib.hid hs
  have HG := Lib.hid hg
  have HC := Lib.hid hc
  have hcell : w1.cell? ⟨g, I / 64, none⟩ = some (.int .u64 ((W (I / 64) : Nat) : Int)) := by
    rw [hs.2.1.cell, wordCells_get _ _ _ (by unfold wordsOf; omega)]
  have hb : bitOf W I = S I := H2.out I hi
  unfold bitOf at hb
  have hx := H1.out (I / 64)
  generalize I / 64 = q at *
  generalize W q = x at *
  have hp : 2 ^ (I % 64) < 18446744073709551616 := Nat.pow_lt_pow_right (by decide) (by omega : I % 64 < 64)
  have hv := u64_and_nat x (2 ^ (I % 64)) hx hp
  rw [testBit_word, hb] at hv
  have hp0 : 0 < 2 ^ (I % 64) := Nat.pow_pos (by decide)
  generalize 2 ^ (I % 64) = p at *
  have hne : ((((if S I = true then p else 0 : Nat)) : Int) != 0) = S I := by
    cases S I
    · simp
    · simp; omega
  obtain ⟨B, hB⟩ : ∃ B, S I = B := ⟨_, rfl⟩
  rw [hB] at hv hne
  have HBB := Lib.hid hB
  clear hB
  generalize (if B = true then p else 0 : Nat) = v at *
  have HCELL := Lib.hid hcell
  clear hs hg hc hcell hb hx hp hp0
  go_wp2_with fail
  refine (ALoad g q x w1 HCELL.out).mono ?_
  rintro e w' ⟨rfl, rfl⟩
  go_wp2_with fail
  go_ret
  refine ⟨some g, ?_, ⟨W, H1.out, H2.out, HS.out⟩, ?_, HC.out.mono (by simp [setF])⟩
  · rw [HBB.out]; rfl
  · intro x hx
    simp [setF] at hx
    rcases hx with rfl | rfl
    · exact .inl (by simp [setF])
    · rcases HG.out with h | h
      · exact .inl (by simp [setF, h])
      · exact .inr h
end

theorem not_word (p : Nat) (hp : p < 18446744073709551616) : bits .xor .u64 IntKind.u64.max (p : Int) = ((18446744073709551615 - p : Nat) : Int) := by
  have h := u64_xor_nat 18446744073709551615 p (by decide) hp
  have e : 18446744073709551615 ^^^ p = 18446744073709551615 - p := by
    have e2 : 18446744073709551615 - p = 2 ^ 64 - (p + 1) := by
      show _ = 18446744073709551616 - _
      omega
    have e3 : 18446744073709551615 = 2 ^ 64 - 1 := rfl
    apply Nat.eq_of_testBit_eq
    intro i
    rw [e2, Nat.testBit_two_pow_sub_succ hp, e3, Nat.testBit_xor, Nat.testBit_two_pow_sub_one]
    by_cases hi : i < 64
    · simp [hi]
    · have hpi : p.testBit i = false := Nat.testBit_lt_two_pow (Nat.lt_of_lt_of_le hp (show 18446744073709551616 ≤ 2 ^ i from Nat.pow_le_pow_right (n := 2) (by decide) (by omega : 64 ≤ i)))
      simp [hi, hpi]
  rw [e] at h
  exact h

theorem or_words (W : Nat → Nat) (I : Nat) (S : Nat → Bool) (n : Int) (h1 : ∀ k, W k < 18446744073709551616) (h2 : ∀ i : Nat, (i : Int) < n → bitOf W i = S i) (hi : (I : Int) < n) :
    (∀ k, (fun i => if i = I / 64 then W (I / 64) ||| 2 ^ (I % 64) else W i) k < 18446744073709551616) ∧ ∀ i : Nat, (i : Int) < n → bitOf (fun i => if i = I / 64 then W (I / 64) ||| 2 ^ (I % 64) else W i) i = (S i || decide (i = I)) := by
  constructor
  · intro k
    simp only
    split
    · exact Nat.or_lt_two_pow (n := 64) (h1 _) (Nat.pow_lt_pow_right (by decide) (by omega : I % 64 < 64))
    · exact h1 k
  · intro i hin
    have := h2 i hin
    unfold bitOf at this ⊢
    simp only
    split
    · rename_i e
      rw [e] at this
      rw [Nat.testBit_or, this, Nat.testBit_two_pow]
      congr 1
      rw [Bool.eq_iff_iff]
      simp
      omega
    · rename_i e
      rw [this]
      have : ¬ i = I := fun h => e (by rw [h])
      simp [this]

theorem and_words (W : Nat → Nat) (I : Nat) (S : Nat → Bool) (n : Int) (h1 : ∀ k, W k < 18446744073709551616) (h2 : ∀ i : Nat, (i : Int) < n → bitOf W i = S i) (hi : (I : Int) < n) :
    (∀ k, (fun i => if i = I / 64 then W (I / 64) &&& (18446744073709551615 - 2 ^ (I % 64)) else W i) k < 18446744073709551616) ∧ ∀ i : Nat, (i : Int) < n → bitOf (fun i => if i = I / 64 then W (I / 64) &&& (18446744073709551615 - 2 ^ (I % 64)) else W i) i = (S i && !decide (i = I)) := by
  constructor
  · intro k
    simp only
    split
    · exact Nat.lt_of_le_of_lt Nat.and_le_left (h1 _)
    · exact h1 k
  · intro i hin
    have := h2 i hin
    unfold bitOf at this ⊢
    simp only
    split
    · rename_i e
      rw [e] at this
      have hp : 2 ^ (I % 64) < 2 ^ 64 := Nat.pow_lt_pow_right (by decide) (by omega : I % 64 < 64)
      have e2 : 18446744073709551615 - 2 ^ (I % 64) = 2 ^ 64 - (2 ^ (I % 64) + 1) := by
        show _ = 18446744073709551616 - _
        omega
      rw [Nat.testBit_and, this, e2, Nat.testBit_two_pow_sub_succ hp, Nat.testBit_two_pow]
      congr 1
      rw [Bool.eq_iff_iff]
      simp
      omega
    · rename_i e
      rw [this]
      have : ¬ i = I := fun h => e (by rw [h])
      simp [this]

section
variable {w : World} {b : Nat} {n : Int} {S : Nat → Bool} {lo : Option Nat}

theorem SPutOut (h : SetIs w b n S lo) (i : Int) (hi : i < 0 ∨ n ≤ i) :
    Calls Try.prog 51 #[.pointer (some ⟨b, 0, none⟩), .int .i64 i] w fun e w' => e = .returned (.bool false) ∧ w = w' := by
  obtain ⟨W, h1, h2, h3⟩ := h
  go_enter Try.func51, Try.ntmps51
  go_wp2_with fail
  refine (SPlaceOut h3 i hi).mono ?_
  rintro e w' ⟨rfl, rfl⟩
  go_wp2_with fail
  go_ret
  exact ⟨rfl, rfl⟩

set_option maxHeartbeats 1000000 in
theorem SPutIn (h : SetIs w b n S lo) (hn1 : n ≤ 100000) (I : Nat) (hi : (I : Int) < n) :
    Calls Try.prog 51 #[.pointer (some ⟨b, 0, none⟩), .int .i64 (I : Int)] w fun e w' => ∃ lo', e = .returned (.bool (!S I)) ∧ SetIs w' b n (fun j => S j || decide (j = I)) lo' ∧ GrewF w (setF b lo) (setF b lo') ∧ Chg (setF b lo) w w' := by
  obtain ⟨W, h1, h2, h3⟩ := h
  have H1 := Lib.hid h1
  have H2 := Lib.hid h2
  have H3 := Lib.hid h3
  clear h1 h2 h3
  go_enter Try.func51, Try.ntmps51
  go_wp2_with fail
  refine (SPlaceIn H3.out hn1 I hi).mono ?_
  rintro e w1 ⟨g, rfl, hs, hg, hc⟩
  have HS := Lib.hid hs
  have HG := Lib.hid hg
  have HC := Lib.hid hc
  have hcell : w1.cell? ⟨g, I / 64, none⟩ = some (.int .u64 ((W (I / 64) : Nat) : Int)) := by
    rw [hs.2.1.cell, wordCells_get _ _ _ (by unfold wordsOf; omega)]
  have HZ := Lib.hid (hs.2.1.frozen (I / 64))
  have hb : bitOf W I = S I := H2.out I hi
  unfold bitOf at hb
  have hx := H1.out (I / 64)
  have hp : 2 ^ (I % 64) < 18446744073709551616 := Nat.pow_lt_pow_right (by decide) (by omega : I % 64 < 64)
  have hv := u64_and_nat (W (I / 64)) (2 ^ (I % 64)) hx hp
  rw [testBit_word, hb] at hv
  have hp0 : 0 < 2 ^ (I % 64) := Nat.pow_pos (by decide)
  have HW := Lib.hid (or_words W I S n H1.out H2.out hi)
  obtain ⟨q, hq⟩ : ∃ q, I / 64 = q := ⟨_, rfl⟩
  rw [hq] at hcell hv hx HZ HW ⊢
  obtain ⟨x, hxx⟩ : ∃ x, W q = x := ⟨_, rfl⟩
  rw [hxx] at hcell hv hx HW
  obtain ⟨p, hpp⟩ : ∃ p, 2 ^ (I % 64) = p := ⟨_, rfl⟩
  rw [hpp] at hp hv hp0 HW ⊢
  have hne : ((((if S I = true then p else 0 : Nat)) : Int) == 0) = !S I := by
    cases S I
    · simp
    · simp; omega
  obtain ⟨B, hB⟩ : ∃ B, S I = B := ⟨_, rfl⟩
  rw [hB] at hv hne
  have HBB := Lib.hid hB
  generalize (if B = true then p else 0 : Nat) = v at *
  have HCELL := Lib.hid hcell
  have HX := Lib.hid hx
  have HP := Lib.hid hp
  clear hs hg hc hcell hb hx hp hp0 hB hq hxx hpp
  go_wp2_with fail
  refine (AOr g q x p HX.out HP.out w1 HCELL.out HZ.out).mono ?_
  rintro e w' ⟨rfl, rfl⟩
  go_wp2_with fail
  go_ret
  refine ⟨some g, ?_, ⟨_, HW.out.1, HW.out.2, ⟨HS.out.1.far (by simpa using HS.out.2.2.symm) _, ?_, HS.out.2.2⟩⟩, ?_, ?_⟩
  · rw [HBB.out]; rfl
  · rw [← wordCells_set]
    exact HS.out.2.1.set_ q _
  · intro x hx
    simp [setF] at hx
    rcases hx with rfl | rfl
    · exact .inl (by simp [setF])
    · rcases HG.out with h | h
      · exact .inl (by simp [setF, h])
      · exact .inr h
  · refine (HC.out.mono (by simp [setF])).setCell ?_ _
    rcases HG.out with h | h
    · exact .inl (by simp [setF, h])
    · exact .inr h

theorem SDropOut (h : SetIs w b n S lo) (i : Int) (hi : i < 0 ∨ n ≤ i) :
    Calls Try.prog 52 #[.pointer (some ⟨b, 0, none⟩), .int .i64 i] w fun e w' => e = .returned (.bool false) ∧ w = w' := by
  obtain ⟨W, h1, h2, h3⟩ := h
  go_enter Try.func52, Try.ntmps52
  go_wp2_with fail
  refine (SPlaceOut h3 i hi).mono ?_
  rintro e w' ⟨rfl, rfl⟩
  go_wp2_with fail
  go_ret
  exact ⟨rfl, rfl⟩

set_option maxHeartbeats 1000000 in
theorem SDropIn (h : SetIs w b n S lo) (hn1 : n ≤ 100000) (I : Nat) (hi : (I : Int) < n) :
    Calls Try.prog 52 #[.pointer (some ⟨b, 0, none⟩), .int .i64 (I : Int)] w fun e w' => ∃ lo', e = .returned (.bool (S I)) ∧ SetIs w' b n (fun j => S j && !decide (j = I)) lo' ∧ GrewF w (setF b lo) (setF b lo') ∧ Chg (setF b lo) w w' := by
  obtain ⟨W, h1, h2, h3⟩ := h
  have H1 := Lib.hid h1
  have H2 := Lib.hid h2
  have H3 := Lib.hid h3
  clear h1 h2 h3
  go_enter Try.func52, Try.ntmps52
  go_wp2_with fail
  refine (SPlaceIn H3.out hn1 I hi).mono ?_
  rintro e w1 ⟨g, rfl, hs, hg, hc⟩
  have HS := Lib.hid hs
  have HG := Lib.hid hg
  have HC := Lib.hid hc
  have hcell : w1.cell? ⟨g, I / 64, none⟩ = some (.int .u64 ((W (I / 64) : Nat) : Int)) := by
    rw [hs.2.1.cell, wordCells_get _ _ _ (by unfold wordsOf; omega)]
  have HZ := Lib.hid (hs.2.1.frozen (I / 64))
  have hb : bitOf W I = S I := H2.out I hi
  unfold bitOf at hb
  have hx := H1.out (I / 64)
  have hp : 2 ^ (I % 64) < 18446744073709551616 := Nat.pow_lt_pow_right (by decide) (by omega : I % 64 < 64)
  have hv := u64_and_nat (W (I / 64)) (2 ^ (I % 64)) hx hp
  rw [testBit_word, hb] at hv
  have hp0 : 0 < 2 ^ (I % 64) := Nat.pow_pos (by decide)
  have HW := Lib.hid (and_words W I S n H1.out H2.out hi)
  obtain ⟨q, hq⟩ : ∃ q, I / 64 = q := ⟨_, rfl⟩
  rw [hq] at hcell hv hx HZ HW ⊢
  obtain ⟨x, hxx⟩ : ∃ x, W q = x := ⟨_, rfl⟩
  rw [hxx] at hcell hv hx HW
  obtain ⟨p, hpp⟩ : ∃ p, 2 ^ (I % 64) = p := ⟨_, rfl⟩
  rw [hpp] at hp hv hp0 HW ⊢
  have hne : ((((if S I = true then p else 0 : Nat)) : Int) != 0) = S I := by
    cases S I
    · simp
    · simp; omega
  obtain ⟨B, hB⟩ : ∃ B, S I = B := ⟨_, rfl⟩
  rw [hB] at hv hne
  have HBB := Lib.hid hB
  obtain ⟨c, hcc⟩ : ∃ c : Nat, 18446744073709551615 - p = c := ⟨_, rfl⟩
  have HQ := Lib.hid (show c < 18446744073709551616 by omega)
  have hnot : bits .xor .u64 IntKind.u64.max (p : Int) = (c : Int) := by rw [← hcc]; exact not_word p hp
  rw [hcc] at HW
  clear hcc
  generalize (if B = true then p else 0 : Nat) = v at *
  have HCELL := Lib.hid hcell
  have HX := Lib.hid hx
  have HP := Lib.hid hp
  clear hs hg hc hcell hb hx hp hp0 hB hq hxx hpp
  go_wp2_with fail
  refine (AAnd g q x _ HX.out HQ.out w1 HCELL.out HZ.out).mono ?_
  rintro e w' ⟨rfl, rfl⟩
  go_wp2_with fail
  go_ret
  refine ⟨some g, ?_, ⟨_, HW.out.1, HW.out.2, ⟨HS.out.1.far (by simpa using HS.out.2.2.symm) _, ?_, HS.out.2.2⟩⟩, ?_, ?_⟩
  · rw [HBB.out]; rfl
  · rw [← wordCells_set]
    exact HS.out.2.1.set_ q _
  · intro x hx
    simp [setF] at hx
    rcases hx with rfl | rfl
    · exact .inl (by simp [setF])
    · rcases HG.out with h | h
      · exact .inl (by simp [setF, h])
      · exact .inr h
  · refine (HC.out.mono (by simp [setF])).setCell ?_ _
    rcases HG.out with h | h
    · exact .inl (by simp [setF, h])
    · exact .inr h
end
end Go.Proofs.Ytapbphbnffggnaa
