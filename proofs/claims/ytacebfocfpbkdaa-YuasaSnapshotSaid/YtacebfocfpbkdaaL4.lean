/-
  Parts of the proof, joined: Mark2, Ones, OnesP, Bits, OnesW, SCount, SReset, Mark3, Mark4, MarkIter, Result, Mark5, Mark6, Mark7, Marks, Mark8, Mark9, Fit11, StillIn. Conditions: as each part says.
-/
import Derived.Test.YtacebfocfpbkdaaL3
import Derived.Test.YtacebfocfpbkdaaL1
import Derived.Test.YtacebfocfpbkdaaL2
import Derived.Outline
import Derived.Test.YtacebfocfpbkdaaRows
import Derived.StillTailTactics
import Derived.OrdersIn

/-
  The marker (layer 11): it blackens, makes grey again, forgets. Conditions: as each contract says.
-/
namespace Go.Proofs.Ytacebfocfpbkdaa
set_option linter.unusedVariables false
set_option linter.unusedSimpArgs false
open Go.RowKit Go.Shelf

section
variable {w0 w : World} {L : List Res} {i m a n : Nat} {C : Col}
theorem ok_black {o : Own3} (ho : MarkOk n o C) {r : Nat} (h0 : 0 < r) (hr : r < n) : MarkOk n o (C.black r) := by
  refine ⟨ho.grey.less (fun x hx => ?_), ho.room, ho.few, ho.refs, fun x hx => ?_, fun x hx => ?_, ho.size⟩
  · obtain ⟨h1, h2⟩ := grey_iff.1 hx
    have h1' : (C.mz x || decide (x = r)) = true := h1
    have h2' : (C.sc x || decide (x = r)) = false := h2
    simp only [Bool.or_eq_false_iff, decide_eq_false_iff_not] at h2'
    simp only [Bool.or_eq_true, decide_eq_true_eq] at h1'
    rcases h1' with h1' | h1'
    · exact grey_iff.2 ⟨h1', h2'.1⟩
    · exact absurd h1' h2'.2
  · have hx' : (C.mz x || decide (x = r)) = true := hx
    simp only [Bool.or_eq_true, decide_eq_true_eq] at hx'
    rcases hx' with h1 | rfl
    · exact ho.mz x h1
    · exact ⟨h0, hr⟩
  · have hx' : (C.sc x || decide (x = r)) = true := hx
    simp only [Bool.or_eq_true, decide_eq_true_eq] at hx'
    show (C.mz x || decide (x = r)) = true
    rcases hx' with h1 | rfl
    · rw [ho.sc x h1]; rfl
    · simp
theorem ok_forget {o : Own3} (ho : MarkOk n o C) (r : Nat) : MarkOk n o (C.forget r) := by
  refine ⟨ho.grey.less (fun x hx => ?_), ho.room, ho.few, ho.refs, fun x hx => ?_, fun x hx => ?_, ho.size⟩
  · obtain ⟨h1, h2⟩ := grey_iff.1 hx
    have h1' : (C.mz x && !decide (x = r)) = true := h1
    have h2' : (C.sc x && !decide (x = r)) = false := h2
    simp only [Bool.and_eq_true, Bool.not_eq_true', decide_eq_false_iff_not] at h1'
    simp [h1'.2] at h2'
    exact grey_iff.2 ⟨h1'.1, h2'⟩
  · have hx' : (C.mz x && !decide (x = r)) = true := hx
    simp only [Bool.and_eq_true] at hx'
    exact ho.mz x hx'.1
  · have hx' : (C.sc x && !decide (x = r)) = true := hx
    simp only [Bool.and_eq_true] at hx'
    show (C.mz x && !decide (x = r)) = true
    rw [ho.sc x hx'.1, hx'.2]
    rfl
theorem ok_regrey {o : Own3} (ho : MarkOk n o C) {r : Nat} (h0 : 0 < r) (hr : r < n) (hm : C.mz r = true) :
    MarkOk n { o with gs := if o.gs.length < o.room then o.gs ++ [r] else o.gs, over := if o.gs.length < o.room then o.over else true } ⟨C.mz, fun x => C.sc x && !decide (x = r)⟩ := by
  have hg : ∀ x, (Col.mk C.mz (fun x => C.sc x && !decide (x = r))).grey x = true → C.grey x = true ∨ x = r := by
    intro x hx
    obtain ⟨h1, h2⟩ := grey_iff.1 hx
    have h2' : (C.sc x && !decide (x = r)) = false := h2
    by_cases e : x = r
    · exact .inr e
    · left
      simp [e] at h2'
      exact grey_iff.2 ⟨h1, h2'⟩
  refine ⟨?_, ho.room, ho.few, ?_, ho.mz, ?_, ho.size⟩
  · by_cases h : o.gs.length < o.room
    · simp only [h, if_true]; exact ho.grey.push hg h
    · simp only [h, if_false]; exact ho.grey.full
  · intro x hx
    simp only at hx
    split at hx
    · rcases List.mem_append.1 hx with h1 | h1
      · exact ho.refs x h1
      · simp at h1; subst h1; exact ⟨h0, hr⟩
    · exact ho.refs x hx
  · intro x hx
    have hx' : (C.sc x && !decide (x = r)) = true := hx
    simp only [Bool.and_eq_true] at hx'
    exact ho.sc x hx'.1
theorem KBlacken (S : Sep w0 w L) (i : Nat) (hi : L[i]? = some (markR m a n C)) (r : Nat) (h0 : 0 < r) (hr : r < n) : Calls Try.prog 21 #[.pointer (some ⟨m, 0, none⟩), .int .i64 (r : Int)] w fun e w' => e = .returned (.tuple #[]) ∧ Sep w0 w' (L.set i (markR m a n (C.black r))) := by
  obtain ⟨o, ho, hs⟩ := mark_open S i hi
  have c1 := (hs.blk 0 rfl).cell 1
  simp only [List.getElem?_toArray, List.getElem?_cons_zero, List.getElem?_cons_succ] at c1
  have hz : ((r : Int) == 0) = false := by simp; omega
  have hz2 : ¬ (r : Int) = 0 := by omega
  have hz3 : ((r : Int) != 0) = true := by simp; omega
  have hsz := ho.size
  have HI := Lib.hid hi
  have HO := Lib.hid ho
  have HC := Lib.hid (TSPut hs 1 rfl (by omega) r (by omega))
  clear hs ho S hi
  go_enter Try.func21, Try.ntmps21
  go_wp2_with (first
    | (go_at_call 56; refine HC.out.mono ?_; rintro e w1 ⟨rfl, hs⟩; have c2 := (hs.blk 0 rfl).cell 2; simp only [List.getElem?_toArray, List.getElem?_cons_zero, List.getElem?_cons_succ] at c2; have HC2 := Lib.hid (TSPut hs 2 rfl (by omega) r (by omega)); clear hs HC)
    | (go_at_call 56; refine HC2.out.mono ?_; rintro e w2 ⟨rfl, hs⟩; have HS := Lib.hid hs; clear hs HC2))
  go_end0
  exact ⟨rfl, mark_shut (ok_black HO.out h0 hr) HS.out HI.out⟩
theorem KForget (S : Sep w0 w L) (i : Nat) (hi : L[i]? = some (markR m a n C)) (r : Nat) (hr : r < n) : Calls Try.prog 48 #[.pointer (some ⟨m, 0, none⟩), .int .i64 (r : Int)] w fun e w' => e = .returned (.tuple #[]) ∧ Sep w0 w' (L.set i (markR m a n (C.forget r))) := by
  obtain ⟨o, ho, hs⟩ := mark_open S i hi
  have c1 := (hs.blk 0 rfl).cell 1
  simp only [List.getElem?_toArray, List.getElem?_cons_zero, List.getElem?_cons_succ] at c1
  have hsz := ho.size
  have HI := Lib.hid hi
  have HO := Lib.hid ho
  have HC := Lib.hid (TSDrop hs 1 rfl (by omega) r (by omega))
  clear hs ho S hi
  go_enter Try.func48, Try.ntmps48
  go_wp2_with (first
    | (go_at_call 66; refine HC.out.mono ?_; rintro e w1 ⟨rfl, hs⟩; have c2 := (hs.blk 0 rfl).cell 2; simp only [List.getElem?_toArray, List.getElem?_cons_zero, List.getElem?_cons_succ] at c2; have HC2 := Lib.hid (TSDrop hs 2 rfl (by omega) r (by omega)); clear hs HC)
    | (go_at_call 66; refine HC2.out.mono ?_; rintro e w2 ⟨rfl, hs⟩; have HS := Lib.hid hs; clear hs HC2))
  go_end0
  exact ⟨rfl, mark_shut (ok_forget HO.out r) HS.out HI.out⟩
end
end Go.Proofs.Ytacebfocfpbkdaa

/-
  The number of one bits of a word, as the library reckons it (plain). Conditions: as each theorem says; no walk.
-/
namespace Go.Proofs.Ytacebfocfpbkdaa
set_option linter.unusedVariables false
set_option linter.unusedSimpArgs false

theorem and_split (k hi lo M m : Nat) (hlo : lo < 2 ^ k) (hm : m < 2 ^ k) : (2 ^ k * hi + lo) &&& (2 ^ k * M + m) = 2 ^ k * (hi &&& M) + (lo &&& m) := by
  apply Nat.eq_of_testBit_eq
  intro j
  rw [Nat.testBit_and, Nat.testBit_two_pow_mul_add _ hlo, Nat.testBit_two_pow_mul_add _ hm, Nat.testBit_two_pow_mul_add _ (Nat.and_lt_two_pow _ hm)]
  split <;> rw [Nat.testBit_and]
theorem and_byte64 (b v c M : Nat) (hb : b < 256) (hc : c < 256) : (b + 256 * v) &&& (c + 256 * M) = (b &&& c) + 256 * (v &&& M) := by
  have := and_split 8 v b M c hb hc
  rw [show (2 : Nat) ^ 8 = 256 from rfl] at this
  rw [Nat.add_comm b, Nat.add_comm c, this, Nat.add_comm]

/-- n times the byte c. -/
def maskN (c : Nat) : Nat → Nat
  | 0 => 0
  | n + 1 => c + 256 * maskN c n
/-- f at each byte. -/
def lanes (f : Nat → Nat) : Nat → Nat → Nat
  | 0, _ => 0
  | n + 1, x => f (x % 256) + 256 * lanes f n (x / 256)

def s1 (b : Nat) : Nat := ((b / 2) &&& 85) + (b &&& 85)
def s2 (b : Nat) : Nat := ((b / 4) &&& 51) + (b &&& 51)
def s3 (b : Nat) : Nat := (b / 16 + b) &&& 15
def pop8 (b : Nat) : Nat := (List.range 8).countP b.testBit

theorem lanes_mod {f : Nat → Nat} (hf : ∀ b, b < 256 → f b < 256) (n x : Nat) : lanes f (n + 1) x % 256 = f (x % 256) ∧ lanes f (n + 1) x / 256 = lanes f n (x / 256) := by
  have h := hf (x % 256) (Nat.mod_lt _ (by omega))
  show (f (x % 256) + 256 * lanes f n (x / 256)) % 256 = _ ∧ (f (x % 256) + 256 * lanes f n (x / 256)) / 256 = _
  omega
theorem lanes_comp {f g : Nat → Nat} (hf : ∀ b, b < 256 → f b < 256) : ∀ n x, lanes g n (lanes f n x) = lanes (fun b => g (f b)) n x
  | 0, _ => rfl
  | n + 1, x => by
    obtain ⟨h1, h2⟩ := lanes_mod hf n x
    show g (lanes f (n + 1) x % 256) + 256 * lanes g n (lanes f (n + 1) x / 256) = _
    rw [h1, h2, lanes_comp hf n]
    rfl
theorem lanes_congr {f g : Nat → Nat} (h : ∀ b, b < 256 → f b = g b) : ∀ n x, lanes f n x = lanes g n x
  | 0, _ => rfl
  | n + 1, x => by
    show f (x % 256) + 256 * lanes f n (x / 256) = g (x % 256) + 256 * lanes g n (x / 256)
    rw [h _ (Nat.mod_lt _ (by omega)), lanes_congr h n]

theorem mask1 : ∀ b, b < 256 → ∀ t, t < 2 → (b / 2 + 128 * t) &&& 85 = (b / 2) &&& 85 := by decide +kernel
theorem mask2 : ∀ b, b < 256 → ∀ t, t < 4 → (b / 4 + 64 * t) &&& 51 = (b / 4) &&& 51 := by decide +kernel
theorem mask3 : ∀ b, b < 128 → ∀ t, t < 8 → (b + 16 * t) &&& 15 = b &&& 15 := by decide +kernel

theorem step1 : ∀ n x, x < 256 ^ n → ((x / 2) &&& maskN 85 n) + (x &&& maskN 85 n) = lanes s1 n x
  | 0, x, h => by simp [maskN, lanes]
  | n + 1, x, h => by
    obtain ⟨b, v, rfl, hb⟩ : ∃ b v, x = b + 256 * v ∧ b < 256 := ⟨x % 256, x / 256, by omega, Nat.mod_lt _ (by omega)⟩
    have hv : v < 256 ^ n := by rw [Nat.pow_succ] at h; omega
    have ih := step1 n v hv
    have e : (b + 256 * v) / 2 = (b / 2 + 128 * (v % 2)) + 256 * (v / 2) := by omega
    show ((b + 256 * v) / 2 &&& (85 + 256 * maskN 85 n)) + (b + 256 * v &&& (85 + 256 * maskN 85 n)) = s1 ((b + 256 * v) % 256) + 256 * lanes s1 n ((b + 256 * v) / 256)
    rw [e, and_byte64 _ _ _ _ (by omega) (by omega), and_byte64 _ _ _ _ hb (by omega), mask1 b hb _ (Nat.mod_lt _ (by omega)), show (b + 256 * v) % 256 = b by omega, show (b + 256 * v) / 256 = v by omega, ← ih]
    unfold s1
    omega
theorem step2 : ∀ n x, x < 256 ^ n → ((x / 4) &&& maskN 51 n) + (x &&& maskN 51 n) = lanes s2 n x
  | 0, x, h => by simp [maskN, lanes]
  | n + 1, x, h => by
    obtain ⟨b, v, rfl, hb⟩ : ∃ b v, x = b + 256 * v ∧ b < 256 := ⟨x % 256, x / 256, by omega, Nat.mod_lt _ (by omega)⟩
    have hv : v < 256 ^ n := by rw [Nat.pow_succ] at h; omega
    have ih := step2 n v hv
    have e : (b + 256 * v) / 4 = (b / 4 + 64 * (v % 4)) + 256 * (v / 4) := by omega
    show ((b + 256 * v) / 4 &&& (51 + 256 * maskN 51 n)) + (b + 256 * v &&& (51 + 256 * maskN 51 n)) = s2 ((b + 256 * v) % 256) + 256 * lanes s2 n ((b + 256 * v) / 256)
    rw [e, and_byte64 _ _ _ _ (by omega) (by omega), and_byte64 _ _ _ _ hb (by omega), mask2 b hb _ (Nat.mod_lt _ (by omega)), show (b + 256 * v) % 256 = b by omega, show (b + 256 * v) / 256 = v by omega, ← ih]
    unfold s2
    omega
/-- Both halves of each byte are at most four. -/
def small (b : Nat) : Bool := decide (b % 16 ≤ 4) && decide (b / 16 ≤ 4)
theorem step3 {f : Nat → Nat} (hf : ∀ b, b < 256 → small (f b) = true) : ∀ n x, ((lanes f n x / 16 + lanes f n x) &&& maskN 15 n) = lanes (fun b => s3 (f b)) n x
  | 0, x => by simp [maskN, lanes]
  | n + 1, x => by
    have hb := hf (x % 256) (Nat.mod_lt _ (by omega))
    have ih := step3 hf n (x / 256)
    have hv16 : lanes f n (x / 256) % 16 ≤ 4 := by
      cases n with
      | zero => show 0 % 16 ≤ 4; omega
      | succ m =>
        have h2 := hf (x / 256 % 256) (Nat.mod_lt _ (by omega))
        unfold small at h2
        simp at h2
        show (f (x / 256 % 256) + 256 * _) % 16 ≤ 4
        omega
    obtain ⟨b, hbe⟩ : ∃ b, f (x % 256) = b := ⟨_, rfl⟩
    obtain ⟨v, hve⟩ : ∃ v, lanes f n (x / 256) = v := ⟨_, rfl⟩
    rw [hve] at hv16 ih
    rw [hbe] at hb
    unfold small at hb
    simp at hb
    show ((f (x % 256) + 256 * lanes f n (x / 256)) / 16 + (f (x % 256) + 256 * lanes f n (x / 256)) &&& (15 + 256 * maskN 15 n)) = s3 (f (x % 256)) + 256 * lanes (fun b => s3 (f b)) n (x / 256)
    rw [hbe, hve, show (b + 256 * v) / 16 + (b + 256 * v) = (b / 16 + b + 16 * (v % 16)) + 256 * (v / 16 + v) by omega, and_byte64 _ _ _ _ (by omega) (by omega), mask3 _ (by omega) _ (by omega), ih]
    rfl

theorem s1_lt : ∀ b, b < 256 → s1 b < 256 := by decide +kernel
theorem s12_small : ∀ b, b < 256 → small (s2 (s1 b)) = true := by decide +kernel
theorem s123 : ∀ b, b < 256 → s3 (s2 (s1 b)) = pop8 b := by decide +kernel
theorem pop8_le : ∀ b, b < 256 → pop8 b ≤ 8 := by decide +kernel

/-- How many of the first 8n bits are set. -/
def onesN (n x : Nat) : Nat := (List.range (8 * n)).countP x.testBit
theorem testBit_byte (b v : Nat) (hb : b < 256) (j : Nat) : (b + 256 * v).testBit j = if j < 8 then b.testBit j else v.testBit (j - 8) := by
  have := Nat.testBit_two_pow_mul_add v (i := 8) hb j
  rw [show (2 : Nat) ^ 8 = 256 from rfl] at this
  rw [Nat.add_comm, this]
theorem onesN_succ (n b v : Nat) (hb : b < 256) : onesN (n + 1) (b + 256 * v) = pop8 b + onesN n v := by
  unfold onesN pop8
  rw [show 8 * (n + 1) = 8 + 8 * n by omega, List.range_add, List.countP_append, List.countP_map]
  congr 1
  · refine List.countP_congr (fun j hj => ?_)
    rw [testBit_byte b v hb, if_pos (by simpa using hj)]
  · refine List.countP_congr (fun j hj => ?_)
    simp only [Function.comp]
    rw [testBit_byte b v hb, if_neg (by omega), show 8 + j - 8 = j by omega]

def m0 : Nat := 6148914691236517205
def m1 : Nat := 3689348814741910323
def m2 : Nat := 1085102592571150095
/-- What the library reckons. -/
def popA (x : Nat) : Nat := ((x / 2) &&& m0) + (x &&& m0)
def popB (a : Nat) : Nat := ((a / 4) &&& m1) + (a &&& m1)
def popC (b : Nat) : Nat := (b / 16 + b) &&& m2

theorem pop_lanes (x : Nat) (hx : x < 256 ^ 8) : popC (popB (popA x)) = lanes pop8 8 x := by
  have e1 : popA x = lanes s1 8 x := step1 8 x hx
  have hl : ∀ n y, lanes s1 n y < 256 ^ n := by
    intro n
    induction n with
    | zero => intro y; show 0 < 1; omega
    | succ n ih =>
      intro y
      have h1 := s1_lt (y % 256) (Nat.mod_lt _ (by omega))
      have h2 := ih (y / 256)
      show s1 (y % 256) + 256 * lanes s1 n (y / 256) < 256 ^ (n + 1)
      rw [Nat.pow_succ]
      omega
  have e2 : popB (popA x) = lanes (fun b => s2 (s1 b)) 8 x := by
    rw [e1, ← lanes_comp s1_lt]
    exact step2 8 _ (hl 8 x)
  have e3 : popC (popB (popA x)) = lanes (fun b => s3 (s2 (s1 b))) 8 x := by
    rw [e2]
    exact step3 s12_small 8 x
  rw [e3]
  exact lanes_congr s123 8 x

/-- The last sums. -/
theorem pop_sum (x : Nat) (hx : x < 256 ^ 8) {c d e f : Nat} (hc : c = lanes pop8 8 x) (hd : d = c + c / 256) (he : e = d + d / 65536) (hf : f = e + e / 4294967296) : d < 18446744073709551616 ∧ e < 18446744073709551616 ∧ f < 18446744073709551616 ∧ f % 128 = onesN 8 x := by
  have key : ∀ n y, y < 256 ^ (n + 1) → ∃ b v, y = b + 256 * v ∧ b < 256 ∧ v < 256 ^ n := fun n y hy => ⟨y % 256, y / 256, by omega, Nat.mod_lt _ (by omega), by rw [Nat.pow_succ] at hy; omega⟩
  obtain ⟨b0, x1, rfl, h0, hx1⟩ := key 7 x hx
  obtain ⟨b1, x2, rfl, h1, hx2⟩ := key 6 x1 hx1
  obtain ⟨b2, x3, rfl, h2, hx3⟩ := key 5 x2 hx2
  obtain ⟨b3, x4, rfl, h3, hx4⟩ := key 4 x3 hx3
  obtain ⟨b4, x5, rfl, h4, hx5⟩ := key 3 x4 hx4
  obtain ⟨b5, x6, rfl, h5, hx6⟩ := key 2 x5 hx5
  obtain ⟨b6, x7, rfl, h6, hx7⟩ := key 1 x6 hx6
  obtain ⟨b7, x8, rfl, h7, hx8⟩ := key 0 x7 hx7
  obtain rfl : x8 = 0 := by simpa using hx8
  have hstep : ∀ n b v, b < 256 → lanes pop8 (n + 1) (b + 256 * v) = pop8 b + 256 * lanes pop8 n v := by
    intro n b v hb
    show pop8 ((b + 256 * v) % 256) + 256 * lanes pop8 n ((b + 256 * v) / 256) = _
    rw [show (b + 256 * v) % 256 = b by omega, show (b + 256 * v) / 256 = v by omega]
  rw [hstep 7 _ _ h0, hstep 6 _ _ h1, hstep 5 _ _ h2, hstep 4 _ _ h3, hstep 3 _ _ h4, hstep 2 _ _ h5, hstep 1 _ _ h6, hstep 0 _ _ h7, show lanes pop8 0 0 = 0 from rfl] at hc
  rw [onesN_succ 7 _ _ h0, onesN_succ 6 _ _ h1, onesN_succ 5 _ _ h2, onesN_succ 4 _ _ h3, onesN_succ 3 _ _ h4, onesN_succ 2 _ _ h5, onesN_succ 1 _ _ h6, onesN_succ 0 _ _ h7, show onesN 0 0 = 0 from rfl]
  have p0 := pop8_le b0 h0
  have p1 := pop8_le b1 h1
  have p2 := pop8_le b2 h2
  have p3 := pop8_le b3 h3
  have p4 := pop8_le b4 h4
  have p5 := pop8_le b5 h5
  have p6 := pop8_le b6 h6
  have p7 := pop8_le b7 h7
  generalize pop8 b0 = q0 at *
  generalize pop8 b1 = q1 at *
  generalize pop8 b2 = q2 at *
  generalize pop8 b3 = q3 at *
  generalize pop8 b4 = q4 at *
  generalize pop8 b5 = q5 at *
  generalize pop8 b6 = q6 at *
  generalize pop8 b7 = q7 at *
  clear hx hx1 hx2 hx3 hx4 hx5 hx6 hx7 h0 h1 h2 h3 h4 h5 h6 h7 key hstep
  have hd2 : d = q0 + q1 + 256 * (q1 + q2 + 256 * (q2 + q3 + 256 * (q3 + q4 + 256 * (q4 + q5 + 256 * (q5 + q6 + 256 * (q6 + q7 + 256 * q7)))))) := by omega
  have he2 : e = q0 + q1 + q2 + q3 + 256 * (q1 + q2 + q3 + q4 + 256 * (q2 + q3 + q4 + q5 + 256 * (q3 + q4 + q5 + q6 + 256 * (q4 + q5 + q6 + q7 + 256 * (q5 + q6 + q7 + 256 * (q6 + q7 + 256 * q7)))))) := by omega
  have hf2 : f = q0 + q1 + q2 + q3 + q4 + q5 + q6 + q7 + 256 * (q1 + q2 + q3 + q4 + q5 + q6 + q7 + 256 * (q2 + q3 + q4 + q5 + q6 + q7 + 256 * (q3 + q4 + q5 + q6 + q7 + 256 * (q4 + q5 + q6 + q7 + 256 * (q5 + q6 + q7 + 256 * (q6 + q7 + 256 * q7)))))) := by omega
  omega
end Go.Proofs.Ytacebfocfpbkdaa

/-
  How many numbers a set has, out of its words (plain). Conditions: as each theorem says; no walk.
-/
namespace Go.Proofs.Ytacebfocfpbkdaa
set_option linter.unusedVariables false
set_option linter.unusedSimpArgs false

/-- The one bits of the first m words. -/
def sumOnes (W : Nat → Nat) : Nat → Nat
  | 0 => 0
  | m + 1 => sumOnes W m + onesN 8 (W m)
theorem sumOnes_eq (W : Nat → Nat) : ∀ m, sumOnes W m = (List.range (64 * m)).countP (bitOf W)
  | 0 => rfl
  | m + 1 => by
    unfold sumOnes
    rw [sumOnes_eq W m, show 64 * (m + 1) = 64 * m + 64 by omega, List.range_add, List.countP_append, List.countP_map]
    congr 1
    unfold onesN
    refine List.countP_congr (fun j hj => ?_)
    have hj' : j < 64 := by simpa using hj
    simp only [Function.comp]
    unfold bitOf
    rw [show (64 * m + j) / 64 = m by omega, show (64 * m + j) % 64 = j by omega]
theorem count_bits {W : Nat → Nat} {n m : Nat} {S : Nat → Bool} (h : Bits W (n : Int) S) (hm : n ≤ 64 * m) : sumOnes W m = (elems n S).length := by
  rw [sumOnes_eq]
  unfold elems
  rw [← List.countP_eq_length_filter]
  obtain ⟨d, hd⟩ : ∃ d, 64 * m = n + d := ⟨64 * m - n, by omega⟩
  rw [hd, List.range_add, List.countP_append, List.countP_map]
  have h1 : (List.range n).countP (bitOf W) = (List.range n).countP S := List.countP_congr (fun j hj => by
    have hj' : j < n := by simpa using hj
    rw [h.at_ (by omega)])
  have h2 : (List.range d).countP (bitOf W ∘ fun x => n + x) = 0 := by
    rw [List.countP_eq_zero]
    intro j hj
    simp only [Function.comp]
    rw [h (n + j)]
    simp
    intro h3
    omega
  omega
theorem sumOnes_le {W : Nat → Nat} : ∀ m, sumOnes W m ≤ 64 * m
  | 0 => Nat.le_refl _
  | m + 1 => by
    have h := sumOnes_le (W := W) m
    have h2 : onesN 8 (W m) ≤ 64 := by
      unfold onesN
      have := List.countP_le_length (p := (W m).testBit) (l := List.range (8 * 8))
      simpa using this
    unfold sumOnes
    omega
end Go.Proofs.Ytacebfocfpbkdaa

/-
  Masks of an int: n & (2^k - 1) is n modulo 2^k, whatever n is. Conditions: k at most 32.
-/
namespace Go.Proofs.Ytacebfocfpbkdaa
set_option linter.unusedVariables false
set_option linter.unusedSimpArgs false
open Go.RowKit

theorem ofInt_toNat (n : Int) : ((BitVec.ofInt 64 n).toNat : Int) = n % 18446744073709551616 := by
  rw [BitVec.toNat_ofInt]
  have h : 0 ≤ n % ((2 : Int) ^ 64) := Int.emod_nonneg _ (by decide)
  have e : ((2 : Int) ^ 64) = 18446744073709551616 := by decide
  rw [e] at h
  show ((n % ((2 ^ 64 : Nat) : Int)).toNat : Int) = _
  rw [show (((2 ^ 64 : Nat) : Int)) = 18446744073709551616 from by decide]
  omega

theorem and_nat (n : Int) (m : Nat) (hm : m < 4294967296) : bits .and .i64 n (m : Int) = (((BitVec.ofInt 64 n).toNat &&& m : Nat) : Int) := by
  have h2 : (BitVec.ofInt 64 (m : Int)).toNat = m := by
    rw [BitVec.ofInt_natCast, BitVec.toNat_ofNat]; exact Nat.mod_eq_of_lt (by omega)
  have hx : (BitVec.ofInt 64 n).toNat &&& m ≤ m := Nat.and_le_right
  show IntKind.i64.wrap ((BitVec.ofInt 64 n &&& BitVec.ofInt 64 (m : Int)).toNat : Int) = _
  rw [BitVec.toNat_and, h2, IntKind.wrap_i64]
  omega

theorem mask (n : Int) (k : Nat) (hk : k ≤ 32) : bits .and .i64 n (((2 ^ k - 1 : Nat)) : Int) = n % ((2 ^ k : Nat) : Int) := by
  have hp : 2 ^ k ≤ 2 ^ 32 := Nat.pow_le_pow_right (by omega) hk
  have hp0 : 0 < 2 ^ k := Nat.pow_pos (by omega)
  rw [and_nat n _ (by omega), Nat.and_two_pow_sub_one_eq_mod]
  have h := ofInt_toNat n
  have hd : ((2 ^ k : Nat) : Int) ∣ 18446744073709551616 := by
    refine ⟨((2 ^ (64 - k) : Nat) : Int), ?_⟩
    rw [← Int.natCast_mul, ← Nat.pow_add, show k + (64 - k) = 64 by omega]
    decide
  rw [Int.natCast_emod, h, Int.emod_emod_of_dvd _ hd]

theorem and_1 (n : Int) : bits .and .i64 n 1 = n % 2 := mask n 1 (by omega)
theorem and_3 (n : Int) : bits .and .i64 n 3 = n % 4 := mask n 2 (by omega)
theorem and_7 (n : Int) : bits .and .i64 n 7 = n % 8 := mask n 3 (by omega)
theorem and_15 (n : Int) : bits .and .i64 n 15 = n % 16 := mask n 4 (by omega)
theorem and_31 (n : Int) : bits .and .i64 n 31 = n % 32 := mask n 5 (by omega)
theorem and_255 (n : Int) : bits .and .i64 n 255 = n % 256 := mask n 8 (by omega)
theorem and_4095 (n : Int) : bits .and .i64 n 4095 = n % 4096 := mask n 12 (by omega)
theorem and_65535 (n : Int) : bits .and .i64 n 65535 = n % 65536 := mask n 16 (by omega)

end Go.Proofs.Ytacebfocfpbkdaa

/-
  The library's population count. Conditions: none.
-/
namespace Go.Proofs.Ytacebfocfpbkdaa
set_option linter.unusedVariables false
set_option linter.unusedSimpArgs false
open Go.RowKit

theorem u64and (x m : Nat) (hx : x < 18446744073709551616) (hm : m < 18446744073709551616) : bits .and .u64 (x : Int) (m : Int) = ((x &&& m : Nat) : Int) := u64_and_nat x m hx hm

theorem and_le (x m : Nat) : x &&& m ≤ m := Nat.and_le_right
theorem popA_eq (x : Nat) (hx : x < 18446744073709551616) : IntKind.u64.wrap (bits .and .u64 ((x : Int) / 2) 6148914691236517205 + bits .and .u64 (x : Int) 6148914691236517205) = ((popA x : Nat) : Int) ∧ popA x ≤ 12297829382473034410 := by
  have h1 := u64and (x / 2) m0 (by omega) (by decide)
  have h2 := u64and x m0 hx (by decide)
  rw [show (((x / 2 : Nat)) : Int) = (x : Int) / 2 by omega, show ((m0 : Nat) : Int) = 6148914691236517205 from rfl] at h1
  rw [show ((m0 : Nat) : Int) = 6148914691236517205 from rfl] at h2
  have l1 := and_le (x / 2) m0
  have l2 := and_le x m0
  have hm : m0 = 6148914691236517205 := rfl
  rw [h1, h2, IntKind.wrap_u64]
  unfold popA
  omega
theorem popB_eq (x : Nat) (hx : x < 18446744073709551616) : IntKind.u64.wrap (bits .and .u64 ((x : Int) / 4) 3689348814741910323 + bits .and .u64 (x : Int) 3689348814741910323) = ((popB x : Nat) : Int) ∧ popB x ≤ 7378697629483820646 := by
  have h1 := u64and (x / 4) m1 (by omega) (by decide)
  have h2 := u64and x m1 hx (by decide)
  rw [show (((x / 4 : Nat)) : Int) = (x : Int) / 4 by omega, show ((m1 : Nat) : Int) = 3689348814741910323 from rfl] at h1
  rw [show ((m1 : Nat) : Int) = 3689348814741910323 from rfl] at h2
  have l1 := and_le (x / 4) m1
  have l2 := and_le x m1
  have hm : m1 = 3689348814741910323 := rfl
  rw [h1, h2, IntKind.wrap_u64]
  unfold popB
  omega
theorem popC_eq (x : Nat) (hx : x ≤ 7378697629483820646) : bits .and .u64 ((x : Int) / 16 + (x : Int)) 1085102592571150095 = ((popC x : Nat) : Int) := by
  have h1 := u64and (x / 16 + x) m2 (by omega) (by decide)
  rw [show (((x / 16 + x : Nat)) : Int) = (x : Int) / 16 + (x : Int) by omega, show ((m2 : Nat) : Int) = 1085102592571150095 from rfl] at h1
  rw [h1]
  rfl
theorem add_eq (c k : Nat) (h : c + c / k < 18446744073709551616) : IntKind.u64.wrap ((c : Int) + (c : Int) / (k : Int)) = ((c + c / k : Nat) : Int) := by
  rw [show (c : Int) + (c : Int) / (k : Int) = ((c + c / k : Nat) : Int) by push_cast; rfl, IntKind.wrap_u64]
  exact Int.emod_eq_of_lt (Int.natCast_nonneg _) (Int.ofNat_lt.mpr h)

set_option maxRecDepth 100000 in
theorem Ones64 (x : Nat) (hx : x < 18446744073709551616) (w : World) :
    Calls Try.prog 77 #[.int .u64 (x : Int)] w fun e w' => e = .returned (.int .i64 (onesN 8 x : Int)) ∧ w = w' := by
  obtain ⟨eA, lA⟩ := popA_eq x hx
  obtain ⟨eB, lB⟩ := popB_eq (popA x) (by omega)
  have eC := popC_eq (popB (popA x)) lB
  obtain ⟨hd, he, hf, hmod⟩ := pop_sum x (by omega) (pop_lanes x (by omega)) rfl rfl rfl
  have e1 := add_eq _ 256 hd
  have e2 := add_eq _ 65536 he
  have e3 := add_eq _ 4294967296 hf
  have hC : popC (popB (popA x)) ≤ 1085102592571150095 := and_le _ m2
  have em := mask ((popC (popB (popA x)) + popC (popB (popA x)) / 256 + (popC (popB (popA x)) + popC (popB (popA x)) / 256) / 65536 + (popC (popB (popA x)) + popC (popB (popA x)) / 256 + (popC (popB (popA x)) + popC (popB (popA x)) / 256) / 65536) / 4294967296 : Nat) : Int) 7 (by omega)
  have em2 := em.trans (show _ = ((onesN 8 x : Nat) : Int) by rw [← hmod]; rfl)
  rw [show (((2 ^ 7 - 1 : Nat)) : Int) = 127 from rfl] at em2
  simp only [Int.natCast_add, Int.natCast_ediv, show (((256 : Nat)) : Int) = 256 from rfl, show (((65536 : Nat)) : Int) = 65536 from rfl, show (((4294967296 : Nat)) : Int) = 4294967296 from rfl] at em2
  clear em
  simp only [show (((256 : Nat)) : Int) = 256 from rfl, show (((65536 : Nat)) : Int) = 65536 from rfl, show (((4294967296 : Nat)) : Int) = 4294967296 from rfl] at e1 e2 e3
  go_enter Try.func77, Try.ntmps77
  go_wp2_with fail
  first | (go_ret; done) | (go_ret; exact ⟨rfl, rfl⟩) | fail "x"
end Go.Proofs.Ytacebfocfpbkdaa

/-
  Set.Count: how many numbers a set has. Conditions: at most 100000 numbers.
-/
namespace Go.Proofs.Ytacebfocfpbkdaa
set_option linter.unusedVariables false
set_option linter.unusedSimpArgs false
open Go.RowKit Go.Shelf
attribute [local go_sem] Oper.semAt_some wide_fn round_fn wide_depth round_depth
attribute [local simp] wide_fn round_fn wide_depth round_depth

section
variable {w : World} {b : Nat} {n : Nat} {S : Nat → Bool} {lo : Option Nat}

theorem OnesWord {W : Nat → Nat} (hW : ∀ k, W k < 18446744073709551616) (k : Nat) (w : World) : Calls Try.prog 77 #[.int .u64 ((W k : Nat) : Int)] w fun e w' => e = .returned (.int .i64 (onesN 8 (W k) : Int)) ∧ w = w' := Ones64 (W k) (hW k) w

set_option maxRecDepth 100000 in
set_option maxHeartbeats 2000000 in
theorem SCount (h : SetIs w b (n : Int) S lo) (hn1 : n ≤ 100000) :
    Calls Try.prog 60 #[.pointer (some ⟨b, 0, none⟩)] w fun e w' => ∃ lo', e = .returned (.int .i64 ((elems n S).length : Int)) ∧ SetIs w' b (n : Int) S lo' ∧ GrewF w (setF b lo) (setF b lo') ∧ Chg (setF b lo) w w' := by
  obtain ⟨W, h1, h2, h3⟩ := h
  have hm : n ≤ 64 * wordsOf (n : Int) := by unfold wordsOf; omega
  have hm2 : wordsOf (n : Int) ≤ 100000 := by unfold wordsOf; omega
  have hcount := count_bits h2 hm
  obtain ⟨m, hmm⟩ : ∃ m, wordsOf (n : Int) = m := ⟨_, rfl⟩
  have HM := Lib.hid hmm
  rw [hmm] at hm2 hcount
  have HC := Lib.hid hcount
  have H1 := Lib.hid h1
  have H2 := Lib.hid h2
  have H3 := Lib.hid h3
  clear h1 h2 h3 hm hmm hcount
  refine calls_wide ?_
  gi_enter Try.func60, Try.ntmps60
  gi_wp2_with (gi_at_call 76; refine (calls_in (SWords H3.out (by omega) (by omega))).mono ?_; rw [HM.out]; rintro e w1 ⟨g, rfl, hs, hg, hc⟩; have HS := Lib.hid hs; have HG := Lib.hid hg; have HCH := Lib.hid hc; clear hs hg hc; unfold rowAt)
  gi_loopw [3, 10] (fun s i wr => ∃ k : Nat, k ≤ m ∧ s = .int .i64 ((sumOnes W k : Nat) : Int) ∧ i = .int .i64 k ∧ SetAt wr b n W (some g) ∧ Chg [b] w wr) (fun _ i _ => m + 1 - (intOf i).toNat)
  case atStart => exact ⟨0, by omega, rfl, rfl, HS.out, HCH.out⟩
  case round =>
    obtain ⟨k, hk, rfl, rfl, hS, hC⟩ := hrel
    clear HS HCH
    have hsum : sumOnes W (k + 1) = sumOnes W k + onesN 8 (W k) := rfl
    have hsl := sumOnes_le (W := W) (k + 1)
    by_cases hlt : k < m
    · have hcell : wr.cell? ⟨g, k, none⟩ = some (.int .u64 ((W k : Nat) : Int)) := by
        rw [hS.2.1.cell, wordCells_get _ _ _ (by rw [HM.out]; exact hlt)]
      have HCELL := Lib.hid hcell
      have HS := Lib.hid hS
      have HCH := Lib.hid hC
      have HLT := Lib.hid hlt
      have HSUM := Lib.hid hsum
      rw [hsum] at hsl
      clear hS hC hcell hsum
      gi_wp2_with (first | (gi_at_call 75; refine (calls_in (ALoad g k _ _ HCELL.out)).mono ?_; rintro e w2 ⟨rfl, rfl⟩) | (gi_at_call 77; refine (calls_in (OnesWord H1.out k _)).mono ?_; rintro e w2 ⟨rfl, rfl⟩))
      go_roundw
      case rel => exact ⟨k + 1, HLT.out, by rw [HSUM.out]; go_num, by go_num, HS.out, HCH.out⟩
      case measure => have := HLT.out; simp [intOf]; omega
    · obtain rfl : k = m := by omega
      have HS := Lib.hid hS
      have HCH := Lib.hid hC
      clear hS hC hsum
      gi_wp2
      go_ret
      refine ⟨some g, by rw [← HC.out]; rfl, ⟨W, H1.out, H2.out, HS.out⟩, ?_, ?_⟩
      · intro x hx
        simp [setF] at hx
        rcases hx with rfl | rfl
        · exact .inl (by simp [setF])
        · rcases HG.out with h | h
          · exact .inl (by simp [setF, h])
          · exact .inr h
      · exact HCH.out.mono (by simp [setF])
end
end Go.Proofs.Ytacebfocfpbkdaa

/-
  Set.Reset: it has none. Conditions: at most 100000 numbers.
-/
namespace Go.Proofs.Ytacebfocfpbkdaa
set_option linter.unusedVariables false
set_option linter.unusedSimpArgs false
open Go.RowKit Go.Shelf
attribute [local go_sem] Oper.semAt_some wide_fn round_fn wide_depth round_depth
attribute [local simp] wide_fn round_fn wide_depth round_depth

theorem AStore (g q : Nat) (x : Value) (y : Int) (w : World) (hc : w.cell? ⟨g, q, none⟩ = some x) (hz : w.frozen? ⟨g, q, none⟩ = false) :
    Calls Try.prog 84 #[.pointer (some ⟨g, q, none⟩), .int .u64 y] w fun e w' => e = .returned (.tuple #[]) ∧ w' = w.setCell ⟨g, q, none⟩ (.int .u64 y) := by
  have hst := run_call_store (P := Try.prog) Try.func99 (by kernel_rfl) (by kernel_rfl) (by kernel_rfl) (by kernel_rfl) (k := .u64) (y := y) hc hz
  go_enter Try.func84, Try.ntmps84
  go_wp2
  go_end0
  exact ⟨rfl, rfl⟩

section
variable {w : World} {b : Nat} {n : Nat} {S : Nat → Bool} {lo : Option Nat}

/-- The words with the first k of them zero. -/
def zeroTo (W : Nat → Nat) (k : Nat) : Nat → Nat := fun i => if i < k then 0 else W i
theorem zeroTo_succ (W : Nat → Nat) (k : Nat) : (fun i => if i = k then 0 else zeroTo W k i) = zeroTo W (k + 1) := by
  funext i
  unfold zeroTo
  by_cases h : i = k
  · subst h; simp
  · by_cases h2 : i < k
    · rw [if_neg h, if_pos h2, if_pos (by omega)]
    · rw [if_neg h, if_neg h2, if_neg (by omega)]
theorem zeroTo_bits {W : Nat → Nat} {n : Nat} {S : Nat → Bool} (h : Bits W (n : Int) S) : Bits (zeroTo W (wordsOf (n : Int))) (n : Int) (fun _ => false) := by
  intro i
  have h2 := h i
  unfold bitOf zeroTo at *
  by_cases hi : i / 64 < wordsOf (n : Int)
  · rw [if_pos hi]; simp
  · rw [if_neg hi, h2]
    unfold wordsOf at hi
    have : ¬ ((i : Int) < (n : Int)) := by omega
    simp [this]

set_option maxRecDepth 100000 in
set_option maxHeartbeats 2000000 in
theorem SReset (h : SetIs w b (n : Int) S lo) (hn1 : n ≤ 100000) :
    Calls Try.prog 67 #[.pointer (some ⟨b, 0, none⟩)] w fun e w' => ∃ lo', e = .returned (.tuple #[]) ∧ SetIs w' b (n : Int) (fun _ => false) lo' ∧ GrewF w (setF b lo) (setF b lo') ∧ Chg (setF b lo) w w' := by
  obtain ⟨W, h1, h2, h3⟩ := h
  have hm2 : wordsOf (n : Int) ≤ 100000 := by unfold wordsOf; omega
  have hzb := zeroTo_bits h2
  obtain ⟨m, hmm⟩ : ∃ m, wordsOf (n : Int) = m := ⟨_, rfl⟩
  have HM := Lib.hid hmm
  rw [hmm] at hm2 hzb
  have HZB := Lib.hid hzb
  have H1 := Lib.hid h1
  have H3 := Lib.hid h3
  clear h1 h2 h3 hmm hzb
  refine calls_wide ?_
  gi_enter Try.func67, Try.ntmps67
  gi_wp2_with (gi_at_call 76; refine (calls_in (SWords H3.out (by omega) (by omega))).mono ?_; rw [HM.out]; rintro e w1 ⟨g, rfl, hs, hg, hc⟩; have HS := Lib.hid hs; have HG := Lib.hid hg; have HCH := Lib.hid hc; clear hs hg hc; unfold rowAt)
  gi_loopw [8] (fun i wr => ∃ k : Nat, k ≤ m ∧ i = .int .i64 k ∧ SetAt wr b n (zeroTo W k) (some g) ∧ Chg (setF b lo) w wr) (fun i _ => m + 1 - (intOf i).toNat)
  case atStart => exact ⟨0, by omega, rfl, by have := HS.out; unfold zeroTo; simpa using this, HCH.out.mono (by simp [setF])⟩
  case round =>
    obtain ⟨k, hk, rfl, hS, hC⟩ := hrel
    clear HS HCH
    by_cases hlt : k < m
    · have hcell : wr.cell? ⟨g, k, none⟩ = some (.int .u64 ((zeroTo W k k : Nat) : Int)) := by
        rw [hS.2.1.cell, wordCells_get _ _ _ (by rw [HM.out]; exact hlt)]
      have HCELL := Lib.hid hcell
      have HZ := Lib.hid (hS.2.1.frozen k)
      have HS := Lib.hid hS
      have HCH := Lib.hid hC
      have HLT := Lib.hid hlt
      clear hS hC hcell
      gi_wp2_with (gi_at_call 84; refine (calls_in (AStore g k _ 0 _ HCELL.out HZ.out)).mono ?_; rintro e w2 ⟨rfl, rfl⟩)
      go_roundw
      case rel =>
        refine ⟨k + 1, HLT.out, by go_num, ⟨HS.out.1.far (by simpa using HS.out.2.2.symm) _, ?_, HS.out.2.2⟩, ?_⟩
        · rw [← zeroTo_succ, ← wordCells_set]
          exact HS.out.2.1.set_ k _
        · refine HCH.out.setCell ?_ _
          rcases HG.out with h | h
          · exact .inl (by simp [setF, h])
          · exact .inr h
      case measure => have := HLT.out; simp [intOf]; omega
    · obtain rfl : k = m := by omega
      have HS := Lib.hid hS
      have HCH := Lib.hid hC
      clear hS hC
      gi_wp2
      go_end0
      refine ⟨some g, rfl, ⟨_, ?_, HZB.out, HS.out⟩, ?_, HCH.out⟩
      · intro i
        have := H1.out i
        unfold zeroTo
        split <;> omega
      · intro x hx
        simp [setF] at hx
        rcases hx with rfl | rfl
        · exact .inl (by simp [setF])
        · rcases HG.out with h | h
          · exact .inl (by simp [setF, h])
          · exact .inr h
end

section
variable {w0 w : World} {L : List Res} {b : Nat} {n : Nat} {S : Nat → Bool}
theorem TSCount (h : Sep w0 w L) (i : Nat) (hi : L[i]? = some (setR b (n : Int) S)) (hn1 : n ≤ 100000) :
    Calls Try.prog 60 #[.pointer (some ⟨b, 0, none⟩)] w fun e w' => e = .returned (.int .i64 ((elems n S).length : Int)) ∧ Sep w0 w' L := by
  refine h.look i hi ?_
  rintro F ⟨lo, rfl, hs⟩
  refine (SCount hs hn1).mono ?_
  rintro e w' ⟨lo', rfl, hs', hg, hc⟩
  exact ⟨_, rfl, ⟨lo', rfl, hs'⟩, hg, hc⟩
theorem TSReset (h : Sep w0 w L) (i : Nat) (hi : L[i]? = some (setR b (n : Int) S)) (hn1 : n ≤ 100000) :
    Calls Try.prog 67 #[.pointer (some ⟨b, 0, none⟩)] w fun e w' => e = .returned (.tuple #[]) ∧ Sep w0 w' (L.set i (setR b (n : Int) (fun _ => false))) := by
  refine h.call i hi _ ?_
  rintro F ⟨lo, rfl, hs⟩
  refine (SReset hs hn1).mono ?_
  rintro e w' ⟨lo', rfl, hs', hg, hc⟩
  exact ⟨_, rfl, ⟨lo', rfl, hs'⟩, hg, hc⟩
end
end Go.Proofs.Ytacebfocfpbkdaa

/-
  The marker (layer 11): it counts. Conditions: as each contract says.
-/
namespace Go.Proofs.Ytacebfocfpbkdaa
set_option linter.unusedVariables false
set_option linter.unusedSimpArgs false
open Go.RowKit Go.Shelf

section
variable {w0 w : World} {L : List Res} {i m a n : Nat} {C : Col}
theorem KCount (S : Sep w0 w L) (i : Nat) (hi : L[i]? = some (markR m a n C)) : Calls Try.prog 33 #[.pointer (some ⟨m, 0, none⟩)] w fun e w' => e = .returned (.int .i64 ((elems n C.mz).length : Int)) ∧ Sep w0 w' L := by
  obtain ⟨o, ho, hs⟩ := mark_open S i hi
  have c1 := (hs.blk 0 rfl).cell 1
  simp only [List.getElem?_toArray, List.getElem?_cons_zero, List.getElem?_cons_succ] at c1
  have HI := Lib.hid hi
  have HO := Lib.hid ho
  have HC := Lib.hid (TSCount hs 1 rfl (by have := ho.size; omega))
  clear hs ho S hi
  go_enter Try.func33, Try.ntmps33
  go_wp2_with (go_at_call 60; refine HC.out.mono ?_; rintro e w' ⟨rfl, hs⟩; have HS := Lib.hid hs; clear hs HC)
  go_ret
  have := mark_shut HO.out HS.out HI.out
  rw [set_self HI.out] at this
  exact ⟨rfl, this⟩
theorem drop_same {S : Nat → Bool} {r : Nat} (h : S r = false) : (fun j => S j && !decide (j = r)) = S := by
  funext j
  by_cases e : j = r
  · subst e; simp [h]
  · simp [e]
theorem KRegrey (S : Sep w0 w L) (i : Nat) (hi : L[i]? = some (markR m a n C)) (r : Nat) (h0 : 0 < r) (hr : r < n) : Calls Try.prog 45 #[.pointer (some ⟨m, 0, none⟩), .int .i64 (r : Int)] w fun e w' => e = .returned (.bool (C.sc r)) ∧ Sep w0 w' (L.set i (markR m a n ⟨C.mz, fun x => C.sc x && !decide (x = r)⟩)) := by
  have hz : ((r : Int) == 0) = false := by simp; omega
  have hz2 : ¬ (r : Int) = 0 := by omega
  have HI := Lib.hid hi
  have HSELF := Lib.hid (set_self hi)
  obtain ⟨b, hb⟩ : ∃ b, C.mz r = b := ⟨_, rfl⟩
  have HB := Lib.hid hb
  have HK := Lib.hid (KMarked S i hi r hr)
  obtain ⟨o0, ho0, _⟩ := mark_open S i hi
  cases b with
  | false =>
    have hsc : C.sc r = false := by
      cases h : C.sc r with
      | false => rfl
      | true => rw [ho0.sc r h] at hb; cases hb
    have HSC := Lib.hid hsc
    clear S hi hb ho0 hsc
    go_enter Try.func45, Try.ntmps45
    go_wp2_with (go_at_call 27; refine HK.out.mono ?_; rw [HB.out]; rintro e w' ⟨rfl, hs⟩; have HS := Lib.hid hs; clear hs HK)
    go_ret
    rw [drop_same HSC.out, HSELF.out, HSC.out]
    exact ⟨rfl, HS.out⟩
  | true =>
    obtain ⟨c, hc⟩ : ∃ c, C.sc r = c := ⟨_, rfl⟩
    have HSC := Lib.hid hc
    have HM := Lib.hid hb
    clear S hi hb ho0 hc
    cases c with
    | false =>
      go_enter Try.func45, Try.ntmps45
      go_wp2_with (first
        | (go_at_call 27; refine HK.out.mono ?_; rw [HB.out]; rintro e w' ⟨rfl, hs⟩; obtain ⟨o, ho, hs⟩ := mark_open hs i HI.out; have c2 := (hs.blk 0 rfl).cell 2; simp only [List.getElem?_toArray, List.getElem?_cons_zero, List.getElem?_cons_succ] at c2; have HO := Lib.hid ho; have HC := Lib.hid (TSDrop hs 2 rfl (by have := ho.size; omega) r (by omega)); clear hs ho HK)
        | (go_at_call 66; refine HC.out.mono ?_; rw [HSC.out]; rintro e w' ⟨rfl, hs⟩; have HS := Lib.hid hs; clear hs HC))
      go_ret
      have h2 := HS.out
      rw [drop_same HSC.out] at h2
      rw [drop_same HSC.out, HSC.out]
      exact ⟨rfl, mark_shut HO.out h2 HI.out⟩
    | true =>
      go_enter Try.func45, Try.ntmps45
      go_wp2_with (first
        | (go_at_call 27; refine HK.out.mono ?_; rw [HB.out]; rintro e w' ⟨rfl, hs⟩; obtain ⟨o, ho, hs⟩ := mark_open hs i HI.out; have c2 := (hs.blk 0 rfl).cell 2; simp only [List.getElem?_toArray, List.getElem?_cons_zero, List.getElem?_cons_succ] at c2; have HO := Lib.hid ho; have HC := Lib.hid (TSDrop hs 2 rfl (by have := ho.size; omega) r (by omega)); clear hs ho HK)
        | (go_at_call 66; refine HC.out.mono ?_; rw [HSC.out]; rintro e w1 ⟨rfl, hs⟩; have c3 := (hs.blk 0 rfl).cell 3; simp only [List.getElem?_toArray, List.getElem?_cons_zero, List.getElem?_cons_succ] at c3; have HC2 := Lib.hid (TGPush hs 3 rfl (r : Int) (by rw [ints_length]; have h1 := HO.out.grey.fits; have h2 := HO.out.few; omega)); clear hs HC)
        | (go_at_call 57; refine HC2.out.mono ?_; rintro e w2 ⟨v, rfl, hs⟩; have HS := Lib.hid hs; clear hs HC2))
      go_ret
      refine ⟨by rw [HSC.out]; rfl, mark_shut (ok_regrey HO.out h0 hr HM.out) ?_ HI.out⟩
      have h2 := HS.out
      simp only [ints_length, Int.ofNat_lt] at h2
      by_cases h : o.gs.length < o.room
      · simp only [h, if_true] at h2 ⊢
        rw [← ints_push] at h2
        exact h2
      · simp only [h, if_false] at h2 ⊢
        exact h2
end
end Go.Proofs.Ytacebfocfpbkdaa

/-
  The marker (layer 11): all are white again. Conditions: as each contract says.
-/
namespace Go.Proofs.Ytacebfocfpbkdaa
set_option linter.unusedVariables false
set_option linter.unusedSimpArgs false
open Go.RowKit Go.Shelf

/-- All are white. -/
def Col.white : Col := ⟨fun _ => false, fun _ => false⟩

section
variable {w0 w : World} {L : List Res} {i m a n : Nat} {C : Col}
theorem grey_white {room : Nat} : Grey Col.white [] room false := by
  constructor <;> simp [Col.white, Col.grey]
theorem ok_white {o : Own3} (ho : MarkOk n o C) : MarkOk n { o with gs := [], over := false } Col.white :=
  ⟨grey_white, ho.room, ho.few, by simp, by simp [Col.white], by simp [Col.white], ho.size⟩
theorem KReset (S : Sep w0 w L) (i : Nat) (hi : L[i]? = some (markR m a n C)) : Calls Try.prog 46 #[.pointer (some ⟨m, 0, none⟩)] w fun e w' => e = .returned (.tuple #[]) ∧ Sep w0 w' (L.set i (markR m a n Col.white)) := by
  obtain ⟨o, ho, hs⟩ := mark_open S i hi
  have c1 := (hs.blk 0 rfl).cell 1
  simp only [List.getElem?_toArray, List.getElem?_cons_zero, List.getElem?_cons_succ] at c1
  have HI := Lib.hid hi
  have HO := Lib.hid ho
  have HC := Lib.hid (TSReset hs 1 rfl (by have := ho.size; omega))
  clear hs ho S hi
  go_enter Try.func46, Try.ntmps46
  go_wp2_with (first
    | (go_at_call 67; refine HC.out.mono ?_; rintro e w1 ⟨rfl, hs⟩; have c2 := (hs.blk 0 rfl).cell 2; simp only [List.getElem?_toArray, List.getElem?_cons_zero, List.getElem?_cons_succ] at c2; have HC2 := Lib.hid (TSReset hs 2 rfl (by have := HO.out.size; omega)); clear hs HC)
    | (go_at_call 67; refine HC2.out.mono ?_; rintro e w2 ⟨rfl, hs⟩; have c3 := (hs.blk 0 rfl).cell 3; simp only [List.getElem?_toArray, List.getElem?_cons_zero, List.getElem?_cons_succ] at c3; have HC3 := Lib.hid (TGReset hs 3 rfl); clear hs HC2)
    | (go_at_call 68; refine HC3.out.mono ?_; rintro e w3 ⟨rfl, hs⟩; have HS := Lib.hid hs; clear hs HC3))
  go_end0
  exact ⟨rfl, mark_shut (ok_white HO.out) HS.out HI.out⟩
end
end Go.Proofs.Ytacebfocfpbkdaa

/-
  The marker's iterator over what is marked (layer 11). Conditions: as the theorem says.
-/
namespace Go.Proofs.Ytacebfocfpbkdaa
set_option linter.unusedVariables false
set_option linter.unusedSimpArgs false
open Go.RowKit Go.Shelf
attribute [local go_sem] Oper.semAt_some wide_fn round_fn wide_depth round_depth
attribute [local simp] wide_fn round_fn wide_depth round_depth

section
variable {w0 w : World} {L : List Res}
theorem KAll (S : Sep w0 w L) (m : Nat) : Calls Try.prog 49 #[.pointer (some ⟨m, 0, none⟩)] w fun e w' => e = .returned (.func (.func 69) #[] #[.pointer (some ⟨w.heap.size, 0, none⟩)]) ∧ Sep w0 w' (blkR w.heap.size 33 #[.pointer (some ⟨m, 0, none⟩)] :: L) := by
  have hmf : ∀ (fn : Fn) (first cap : Array Value) (w : World), (Instr.makeFunc fn first cap).run Try.prog w = .ok (.func fn first cap) w := fun _ _ _ _ => rfl
  have H := Lib.hid S
  clear S
  go_enter Try.func49, Try.ntmps49
  go_wp2_with fail
  go_ret
  exact ⟨rfl, H.out.alloc _⟩
end

set_option maxHeartbeats 2000000 in
theorem mark_iter (B m a b1 b2 b3 n : Nat) (S : Nat → Bool) (hn : n ≤ 100000) :
    Iter Try.prog 69 #[.pointer (some ⟨B, 0, none⟩)] (fun i : Nat => #[.int .i64 (i : Int)]) (elems n S) (fun _ => [blkR B 33 #[.pointer (some ⟨m, 0, none⟩)], blkR m 82 #[.pointer (some ⟨a, 0, none⟩), .pointer (some ⟨b1, 0, none⟩), .pointer (some ⟨b2, 0, none⟩), .pointer (some ⟨b3, 0, none⟩)], setR b1 (n : Int) S]) := by
  intro l w0 Φ Φx W R hY h0 hS
  dsimp only [List.cons_append, List.nil_append] at hY hS
  have HY := Lib.hid hY
  have HS := Lib.hid hS
  have H0 := Lib.hid h0
  have hb := (hS.blk 0 rfl).cell 0
  have hc := (hS.blk 1 rfl).cell 1
  have hbl := Lib.hid (hS.blk 0 rfl).lt
  have hal := Lib.hid (hS.blk 1 rfl).lt
  simp at hb hc
  have ab : ∀ o : Go.Obj, (W.alloc o).cell? ⟨B, 0, none⟩ = some (.pointer (some ⟨m, 0, none⟩)) := fun o => (World.cell?_alloc_past _ _ _ hbl.out).trans hb
  have ac : ∀ o : Go.Obj, (W.alloc o).cell? ⟨m, 1, none⟩ = some (.pointer (some ⟨b1, 0, none⟩)) := fun o => (World.cell?_alloc_past _ _ _ hal.out).trans hc
  clear hY h0 hS hb hc
  refine calls_wide ?_
  refine callsIn_of_wp_marks Try.func69 rfl trivial ?_
  simp only [Try.ntmps69, List.size_toArray, List.length_cons, List.length_nil, Nat.reduceAdd, Nat.reduceSub, Array.replicate_succ, Array.replicate_zero, List.push_toArray, List.append_toArray, List.nil_append, List.cons_append]
  gi_wp2_with (gi_at_call 70; refine (calls_in (TSAll (HS.out.alloc _) b1)).mono ?_; rintro e w1 ⟨rfl, hs⟩; have HS1 := Lib.hid hs; clear hs)
  have hS1 := HS1.out
  simp only [World.size_alloc] at hS1 ⊢
  have HSA := Lib.hid ((hS1.lift 4 rfl).lift 1 rfl)
  clear hS1 HS1 HS ab ac hbl hal
  obtain ⟨Y, hY0⟩ : ∃ Y, W.heap.size = Y := ⟨_, rfl⟩
  rw [hY0] at HSA ⊢
  clear hY0
  refine wp_range (gf := 85) (lb := #[.pointer (some ⟨Y + 1, 0, none⟩)]) rfl (enters_of Try.func85 (by kernel_rfl) rfl) (set_iter (Y + 1) b1 n S hn) (fun _ => rfl)
    (R := blkR Y 37 #[.func (.yield l) #[] #[]] :: blkR B 33 #[.pointer (some ⟨m, 0, none⟩)] :: blkR m 82 #[.pointer (some ⟨a, 0, none⟩), .pointer (some ⟨b1, 0, none⟩), .pointer (some ⟨b2, 0, none⟩), .pointer (some ⟨b3, 0, none⟩)] :: R) HSA.out
    (fun pre Rs => ∃ R', Rs = blkR Y 37 #[.func (.yield l) #[] #[]] :: blkR B 33 #[.pointer (some ⟨m, 0, none⟩)] :: blkR m 82 #[.pointer (some ⟨a, 0, none⟩), .pointer (some ⟨b1, 0, none⟩), .pointer (some ⟨b2, 0, none⟩), .pointer (some ⟨b3, 0, none⟩)] :: R' ∧ Φ pre R')
    (fun c pre Rs => c = .ret ∧ ∃ R', Rs = blkR Y 37 #[.func (.yield l) #[] #[]] :: blkR B 33 #[.pointer (some ⟨m, 0, none⟩)] :: blkR m 82 #[.pointer (some ⟨a, 0, none⟩), .pointer (some ⟨b1, 0, none⟩), .pointer (some ⟨b2, 0, none⟩), .pointer (some ⟨b3, 0, none⟩)] :: R' ∧ Φx pre R')
    ⟨R, rfl, H0.out⟩ ?round ?done ?stop
  case round =>
    rintro l1 D pre x _ G W1 r hpre ⟨R1, rfl, hΦ⟩ hS1
    simp only [List.cons_append, List.nil_append] at hS1
    have HPRE := Lib.hid hpre
    have HP := Lib.hid hΦ
    have HS1 := Lib.hid hS1
    clear hpre hΦ hS1 H0 HSA
    gi_wp2
    refine ⟨[], HS1.out, ?_⟩
    intro r' W2 hS2
    simp only [List.cons_append, List.nil_append] at hS2
    have hy0 := (hS2.blk 4 rfl).cell 0
    simp at hy0
    have hS3 : Sep w0 W2 (blkR B 33 #[.pointer (some ⟨m, 0, none⟩)] :: blkR m 82 #[.pointer (some ⟨a, 0, none⟩), .pointer (some ⟨b1, 0, none⟩), .pointer (some ⟨b2, 0, none⟩), .pointer (some ⟨b3, 0, none⟩)] :: setR b1 (n : Int) S :: blkR (Y + 1) 77 #[.pointer (some ⟨b1, 0, none⟩)] :: objR l1 (.loop r') :: objR D (.deferred (some [])) :: blkR Y 37 #[.func (.yield l) #[] #[]] :: (R1 ++ G)) := hS2.front 7 [5, 6, 1, 0, 2, 3, 4]
    have hS4 := hS3.perm ((((perm_mid [blkR (Y + 1) 77 #[.pointer (some ⟨b1, 0, none⟩)], objR l1 (.loop r'), objR D (.deferred (some [])), blkR Y 37 #[.func (.yield l) #[] #[]]] R1 G).cons _).cons _).cons _)
    obtain ⟨fn, tmps, assign, body, hy, hR⟩ := HY.out pre x R1 _ W2 HPRE.out HP.out hS4
    have HR := Lib.hid (show RoundIn (Fence.wide.inRound l1) 0 Try.prog l fn tmps assign body W2 _ from hR)
    clear hR hS2 hS3 hS4
    have back : ∀ (R2 : List Res) (W3 : World), Sep w0 W3 (blkR B 33 #[.pointer (some ⟨m, 0, none⟩)] :: blkR m 82 #[.pointer (some ⟨a, 0, none⟩), .pointer (some ⟨b1, 0, none⟩), .pointer (some ⟨b2, 0, none⟩), .pointer (some ⟨b3, 0, none⟩)] :: setR b1 (n : Int) S :: (R2 ++ ([blkR (Y + 1) 77 #[.pointer (some ⟨b1, 0, none⟩)], objR l1 (.loop r'), objR D (.deferred (some [])), blkR Y 37 #[.func (.yield l) #[] #[]]] ++ G))) → Sep w0 W3 (blkR (Y + 1) 77 #[.pointer (some ⟨b1, 0, none⟩)] :: setR b1 (n : Int) S :: objR l1 (.loop r') :: objR D (.deferred (some [])) :: blkR Y 37 #[.func (.yield l) #[] #[]] :: blkR B 33 #[.pointer (some ⟨m, 0, none⟩)] :: blkR m 82 #[.pointer (some ⟨a, 0, none⟩), .pointer (some ⟨b1, 0, none⟩), .pointer (some ⟨b2, 0, none⟩), .pointer (some ⟨b3, 0, none⟩)] :: (R2 ++ G)) := fun R2 W3 h => by
      have h1 : Sep w0 W3 (blkR B 33 #[.pointer (some ⟨m, 0, none⟩)] :: blkR m 82 #[.pointer (some ⟨a, 0, none⟩), .pointer (some ⟨b1, 0, none⟩), .pointer (some ⟨b2, 0, none⟩), .pointer (some ⟨b3, 0, none⟩)] :: setR b1 (n : Int) S :: blkR (Y + 1) 77 #[.pointer (some ⟨b1, 0, none⟩)] :: objR l1 (.loop r') :: objR D (.deferred (some [])) :: blkR Y 37 #[.func (.yield l) #[] #[]] :: (R2 ++ G)) := h.perm ((((perm_mid R2 [blkR (Y + 1) 77 #[.pointer (some ⟨b1, 0, none⟩)], objR l1 (.loop r'), objR D (.deferred (some [])), blkR Y 37 #[.func (.yield l) #[] #[]]] G).cons _).cons _).cons _)
      exact h1.front 7 [3, 2, 4, 5, 6, 0, 1]
    have BACK := Lib.hid back
    clear back
    gi_wp2
    refine HR.out.mono ?_
    rintro e W3 (⟨rfl, R2, hΦ2, hS5⟩ | ⟨rfl, R2, hΦ2, hS5⟩)
    · have HS5 := Lib.hid (BACK.out _ _ hS5)
      have HP2 := Lib.hid hΦ2
      clear hS5 hΦ2
      gi_wp2
      exact ⟨_, ⟨R2, rfl, HP2.out⟩, HS5.out⟩
    · have HS5 := Lib.hid (BACK.out _ _ hS5)
      have HP2 := Lib.hid hΦ2
      clear hS5 hΦ2
      gi_wp2
      exact ⟨_, ⟨rfl, R2, rfl, HP2.out⟩, HS5.out⟩
  case done =>
    rintro D _ W1 ⟨R1, rfl, hΦ⟩ hS1
    gi_wp2
    refine leaves_mark hS1 (i := 2) rfl (fun _ => results_none rfl _ _ _) ?_
    intro w' hS2
    refine ⟨⟨_, rfl⟩, .inl ⟨R1, hΦ, ?_⟩⟩
    have h' : Sep w0 w' ([blkR B 33 #[.pointer (some ⟨m, 0, none⟩)], blkR m 82 #[.pointer (some ⟨a, 0, none⟩), .pointer (some ⟨b1, 0, none⟩), .pointer (some ⟨b2, 0, none⟩), .pointer (some ⟨b3, 0, none⟩)], setR b1 (n : Int) S] ++ ([blkR (Y + 1) 77 #[.pointer (some ⟨b1, 0, none⟩)], objR D (.deferred none), blkR Y 37 #[.func (.yield l) #[] #[]]] ++ R1)) := hS2.front 6 [4, 5, 1, 0, 2, 3]
    exact (h'.perm (perm_mid _ _ _)).right
  case stop =>
    rintro D c pre _ W1 hpre ⟨rfl, R1, rfl, hΦ⟩ hS1
    gi_wp2
    refine leaves_mark hS1 (i := 2) rfl (fun _ => results_none rfl _ _ _) ?_
    intro w' hS2
    refine ⟨⟨_, rfl⟩, .inr ⟨pre, R1, hpre, hΦ, ?_⟩⟩
    have h' : Sep w0 w' ([blkR B 33 #[.pointer (some ⟨m, 0, none⟩)], blkR m 82 #[.pointer (some ⟨a, 0, none⟩), .pointer (some ⟨b1, 0, none⟩), .pointer (some ⟨b2, 0, none⟩), .pointer (some ⟨b3, 0, none⟩)], setR b1 (n : Int) S] ++ ([blkR (Y + 1) 77 #[.pointer (some ⟨b1, 0, none⟩)], objR D (.deferred none), blkR Y 37 #[.func (.yield l) #[] #[]]] ++ R1)) := hS2.front 6 [4, 5, 1, 0, 2, 3]
    exact (h'.perm (perm_mid _ _ _)).right
end Go.Proofs.Ytacebfocfpbkdaa

/-
  The return of a function whose result lies in a box. Conditions: as each theorem says.
-/
namespace Go.Proofs.Ytacebfocfpbkdaa
set_option linter.unusedVariables false
set_option linter.unusedSimpArgs false
open Go.RowKit Go.Shelf

theorem results_bool {fn : Func} {s : Tmp} (h : fn.results = #[.cell s 4]) {tmps : Array Value} {w : World} {b : Nat} {x : Bool} (hp : tmps.getD s undef = .pointer (some ⟨b, 0, none⟩)) (hc : w.cell? ⟨b, 0, none⟩ = some (.bool x)) :
    (results fn tmps).run Try.prog w = .ok (.bool x) w := by
  have hp' : tmps[s]?.getD undef = .pointer (some ⟨b, 0, none⟩) := by simpa using hp
  simp [results, h, hp', go_sem, hc]

/-- The return of a function that held a loop over a function. -/
theorem leaves_box {fn : Func} {tmps : Array Value} {D : Nat} {w0 w : World} {L : List Res} {Rt : Ending → World → Prop} {s : Tmp} {b : Nat} {x : Bool} (S : Sep w0 w L) (i : Nat) (hi : L[i]? = some (objR D (.deferred (some [])))) (j : Nat) (hj : L[j]? = some (blkR b 4 #[.bool x])) (hne : i ≠ j)
    (h : fn.results = #[.cell s 4]) (hp : tmps.getD s undef = .pointer (some ⟨b, 0, none⟩)) (hR : ∀ w', Sep w0 w' (L.set i (objR D (.deferred none))) → Rt (.returned (.bool x)) w') :
    LeavesInM Fence.wide 0 Try.prog fn tmps Rt [{ target := .collected D, args := #[] }] .returning w := by
  have S' := S.putObj i hi (.deferred none)
  refine ⟨by simp, .inl ⟨D, _, rfl, run_takeDeferred (S.obj hi), ?_⟩⟩
  have hc := (S'.blk j (by rw [List.getElem?_set_ne hne]; exact hj)).cell 0
  simp only [List.getElem?_toArray, List.getElem?_cons_zero] at hc
  exact ⟨_, results_bool h hp hc, hR _ S'⟩
theorem leaves_box0 {fn : Func} {tmps : Array Value} {w0 w : World} {L : List Res} {Rt : Ending → World → Prop} {s : Tmp} {b : Nat} {x : Bool} (S : Sep w0 w L) (j : Nat) (hj : L[j]? = some (blkR b 4 #[.bool x]))
    (h : fn.results = #[.cell s 4]) (hp : tmps.getD s undef = .pointer (some ⟨b, 0, none⟩)) (hR : Rt (.returned (.bool x)) w) :
    LeavesInM Fence.wide 0 Try.prog fn tmps Rt [] .returning w := by
  have hc := (S.blk j hj).cell 0
  simp only [List.getElem?_toArray, List.getElem?_cons_zero] at hc
  exact ⟨_, results_bool h hp hc, hR⟩
end Go.Proofs.Ytacebfocfpbkdaa

/-
  The marker (layer 11): a new one; is an object grey; all grey ones onto the stack. Conditions: as each contract says.
-/
namespace Go.Proofs.Ytacebfocfpbkdaa
set_option linter.unusedVariables false
set_option linter.unusedSimpArgs false
open Go.RowKit Go.Shelf

section
variable {w0 w : World} {L : List Res} {m a n : Nat} {C : Col}

theorem KNew {A : AR} (S : Sep w0 w L) (i : Nat) (hi : L[i]? = some (arenaR a A)) (hn : A.size = (n : Int)) (hn5 : n ≤ 100000) (room : Int) (hroom : room ≤ 1000000) :
    Calls Try.prog 19 #[.pointer (some ⟨a, 0, none⟩), .int .i64 room] w fun e w' => ∃ m, e = .returned (.pointer (some ⟨m, 0, none⟩)) ∧ Sep w0 w' (markR m a n Col.white :: L) := by
  have HC0 := Lib.hid (TASize S i hi)
  have HN := Lib.hid hn
  have HS := Lib.hid S
  have HI := Lib.hid hi
  clear S hi hn
  go_enter Try.func19, Try.ntmps19
  go_wp2_with (first
    | (go_at_call 54; refine HC0.out.mono ?_; rw [HN.out]; rintro e w1 ⟨rfl, rfl⟩; have HC1 := Lib.hid (TSNew HS.out (n : Int) (by omega)); clear HC0)
    | (go_at_call 53; refine HC1.out.mono ?_; rintro e w2 ⟨rfl, hs⟩; have HC2 := Lib.hid (TASize hs (i + 1) (by simpa using HI.out)); have HS2 := Lib.hid hs; clear hs HC1)
    | (go_at_call 54; refine HC2.out.mono ?_; rw [HN.out]; rintro e w3 ⟨rfl, rfl⟩; have HC3 := Lib.hid (TSNew HS2.out (n : Int) (by omega)); clear HC2)
    | (go_at_call 53; refine HC3.out.mono ?_; rintro e w4 ⟨rfl, hs⟩; have HC4 := Lib.hid (TGNew hs); clear hs HC3)
    | (go_at_call 55; refine (HC4.out _).mono ?_; rintro e w5 ⟨b, rfl, hs⟩; have HS5 := Lib.hid hs; clear hs HC4))
  all_goals
    go_ret
    refine ⟨w5.heap.size, rfl, ?_⟩
    have h1 := HS5.out.box #[.pointer (some ⟨a, 0, none⟩), .pointer (some ⟨w.heap.size, 0, none⟩), .pointer (some ⟨w2.heap.size, 0, none⟩), .pointer (some ⟨b, 0, none⟩)] 82
    have h2 := h1.front 4 [0, 3, 2, 1]
    rw [show max (if room < 1 then (1 : Int) else room) 0 = ((max room 1).toNat : Int) by split <;> omega] at h2
    exact mark_shutHead (o := ⟨w.heap.size, w2.heap.size, b, [], (max room 1).toNat, false⟩) ⟨grey_white, by show 1 ≤ (max room 1).toNat; omega, by show (max room 1).toNat ≤ _; omega, by simp, by simp [Col.white], by simp [Col.white], hn5⟩ h2

theorem PMarked (S : Sep w0 w L) (i j : Nat) {b1 b2 b3 : Nat} {Z : Nat → Bool} (hi : L[i]? = some (blkR m 82 #[.pointer (some ⟨a, 0, none⟩), .pointer (some ⟨b1, 0, none⟩), .pointer (some ⟨b2, 0, none⟩), .pointer (some ⟨b3, 0, none⟩)])) (hj : L[j]? = some (setR b1 (n : Int) Z)) (hn : n ≤ 100000) (r : Nat) (hr : r < n) :
    Calls Try.prog 27 #[.pointer (some ⟨m, 0, none⟩), .int .i64 (r : Int)] w fun e w' => e = .returned (.bool (Z r)) ∧ Sep w0 w' L := by
  have c1 := (S.blk i hi).cell 1
  simp only [List.getElem?_toArray, List.getElem?_cons_zero, List.getElem?_cons_succ] at c1
  have HC := Lib.hid (TSHas S j hj (by omega) r (by omega))
  clear S hi hj
  go_enter Try.func27, Try.ntmps27
  go_wp2_with (go_at_call 58; refine HC.out.mono ?_; rintro e w' ⟨rfl, hs⟩; have HS := Lib.hid hs; clear hs HC)
  go_ret
  exact ⟨rfl, HS.out⟩
theorem PScanned (S : Sep w0 w L) (i j : Nat) {b1 b2 b3 : Nat} {Z : Nat → Bool} (hi : L[i]? = some (blkR m 82 #[.pointer (some ⟨a, 0, none⟩), .pointer (some ⟨b1, 0, none⟩), .pointer (some ⟨b2, 0, none⟩), .pointer (some ⟨b3, 0, none⟩)])) (hj : L[j]? = some (setR b2 (n : Int) Z)) (hn : n ≤ 100000) (r : Nat) (hr : r < n) :
    Calls Try.prog 28 #[.pointer (some ⟨m, 0, none⟩), .int .i64 (r : Int)] w fun e w' => e = .returned (.bool (Z r)) ∧ Sep w0 w' L := by
  have c1 := (S.blk i hi).cell 2
  simp only [List.getElem?_toArray, List.getElem?_cons_zero, List.getElem?_cons_succ] at c1
  have HC := Lib.hid (TSHas S j hj (by omega) r (by omega))
  clear S hi hj
  go_enter Try.func28, Try.ntmps28
  go_wp2_with (go_at_call 58; refine HC.out.mono ?_; rintro e w' ⟨rfl, hs⟩; have HS := Lib.hid hs; clear hs HC)
  go_ret
  exact ⟨rfl, HS.out⟩
theorem PGrey (S : Sep w0 w L) (i j k : Nat) {b1 b2 b3 : Nat} (hi : L[i]? = some (blkR m 82 #[.pointer (some ⟨a, 0, none⟩), .pointer (some ⟨b1, 0, none⟩), .pointer (some ⟨b2, 0, none⟩), .pointer (some ⟨b3, 0, none⟩)])) (hj : L[j]? = some (setR b1 (n : Int) C.mz)) (hk : L[k]? = some (setR b2 (n : Int) C.sc)) (hn : n ≤ 100000) (r : Nat) (hr : r < n) :
    Calls Try.prog 80 #[.pointer (some ⟨m, 0, none⟩), .int .i64 (r : Int)] w fun e w' => e = .returned (.bool (C.grey r)) ∧ Sep w0 w' L := by
  have HC := Lib.hid (PMarked S i j hi hj hn r hr)
  have HI := Lib.hid hi
  have HK := Lib.hid hk
  obtain ⟨x, hx⟩ : ∃ x, C.mz r = x := ⟨_, rfl⟩
  have HX := Lib.hid hx
  clear S hi hj hk hx
  cases x with
  | false =>
    have hg : C.grey r = false := by unfold Col.grey; rw [HX.out]; rfl
    have HG := Lib.hid hg
    clear hg
    go_enter Try.func80, Try.ntmps80
    go_wp2_with (go_at_call 27; refine HC.out.mono ?_; rw [HX.out]; rintro e w' ⟨rfl, hs⟩; have HS := Lib.hid hs; clear hs HC)
    go_ret
    refine ⟨?_, HS.out⟩
    rw [HG.out]
    rfl
  | true =>
    have hg : C.grey r = !C.sc r := by unfold Col.grey; rw [HX.out]; rfl
    have HG := Lib.hid hg
    clear hg
    go_enter Try.func80, Try.ntmps80
    go_wp2_with (first
      | (go_at_call 27; refine HC.out.mono ?_; rw [HX.out]; rintro e w' ⟨rfl, hs⟩; have HC2 := Lib.hid (PScanned hs i k HI.out HK.out hn r hr); clear hs HC)
      | (go_at_call 28; refine HC2.out.mono ?_; rintro e w' ⟨rfl, hs⟩; have HS := Lib.hid hs; clear hs HC2))
    go_ret
    refine ⟨?_, HS.out⟩
    rw [HG.out]
    rfl
end
end Go.Proofs.Ytacebfocfpbkdaa

/-
  The marker (layer 11): grey ones onto the stack again; is none grey. Conditions: as the theorem says.
-/
namespace Go.Proofs.Ytacebfocfpbkdaa
set_option linter.unusedVariables false
set_option linter.unusedSimpArgs false
open Go.RowKit Go.Shelf
attribute [local go_sem] Oper.semAt_some wide_fn round_fn wide_depth round_depth
attribute [local simp] wide_fn round_fn wide_depth round_depth

/-- What the stack holds where those of pre were looked at. -/
structure Refill (C : Col) (pre gs : List Nat) (room : Nat) (ov : Bool) : Prop where
  some_ : ov = false → ∀ x ∈ pre, C.grey x = true → x ∈ gs
  fits : gs.length ≤ room
  grey : ∀ x ∈ gs, C.grey x = true
  full : ov = true → gs.length = room
theorem refill_none (C : Col) (room : Nat) : Refill C [] [] room false := ⟨by simp, by simp, by simp, by simp⟩
theorem Refill.skip {C : Col} {pre gs : List Nat} {room : Nat} {ov : Bool} {x : Nat} (h : Refill C pre gs room ov) (hx : C.grey x = false) : Refill C (pre ++ [x]) gs room ov :=
  ⟨fun ho y hy hg => (by
    rcases List.mem_append.1 hy with h1 | h1
    · exact h.some_ ho y h1 hg
    · simp at h1; subst h1; rw [hx] at hg; cases hg), h.fits, h.grey, h.full⟩
theorem Refill.push {C : Col} {pre gs : List Nat} {room : Nat} {ov : Bool} {x : Nat} (h : Refill C pre gs room ov) (hx : C.grey x = true) : Refill C (pre ++ [x]) (if gs.length < room then gs ++ [x] else gs) room (if gs.length < room then ov else true) := by
  by_cases hl : gs.length < room
  · simp only [hl, if_true]
    refine ⟨fun ho y hy hg => ?_, by simp; omega, fun y hy => ?_, fun ho => ?_⟩
    · rcases List.mem_append.1 hy with h1 | h1
      · exact List.mem_append.2 (.inl (h.some_ ho y h1 hg))
      · exact List.mem_append.2 (.inr h1)
    · rcases List.mem_append.1 hy with h1 | h1
      · exact h.grey y h1
      · simp at h1; subst h1; exact hx
    · have := h.full ho
      omega
  · simp only [hl, if_false]
    exact ⟨fun ho => (by cases ho), h.fits, h.grey, fun _ => (by have := h.fits; omega)⟩
theorem Refill.ok {C : Col} {gs : List Nat} {o : Own3} {n : Nat} {ov : Bool} (h : Refill C (elems n C.mz) gs o.room ov) (ho : MarkOk n o C) : MarkOk n { o with gs := gs, over := ov } C := by
  refine ⟨⟨fun hv r hr => ?_, h.fits⟩, ho.room, ho.few, fun r hr => ?_, ho.mz, ho.sc, ho.size⟩
  · have hm := (grey_iff.1 hr).1
    exact h.some_ hv r (mem_elems.2 ⟨(ho.mz r hm).2, hm⟩) hr
  · exact ho.mz r (grey_iff.1 (h.grey r hr)).1

section
variable {w0 w : World} {L R0 : List Res} {m a n : Nat} {C : Col}
set_option maxHeartbeats 2000000 in
theorem KRefill {o : Own3} (ho : MarkOk n o C) (hgs : o.gs = []) (S : Sep w0 w (markParts m a n o C ++ R0)) :
    Calls Try.prog 82 #[.pointer (some ⟨m, 0, none⟩)] w fun e w' => e = .returned (.tuple #[]) ∧ ∃ gs ov, Refill C (elems n C.mz) gs o.room ov ∧ Sep w0 w' (markParts m a n { o with gs := gs, over := ov } C ++ R0) := by
  obtain ⟨T, hT⟩ : ∃ T, w.heap.size = T := ⟨_, rfl⟩
  have hb : Sep w0 (w.alloc (.cells #[.pointer (some ⟨m, 0, none⟩)] 33)) (blkR T 33 #[.pointer (some ⟨m, 0, none⟩)] :: blkR m 82 #[.pointer (some ⟨a, 0, none⟩), .pointer (some ⟨o.b1, 0, none⟩), .pointer (some ⟨o.b2, 0, none⟩), .pointer (some ⟨o.b3, 0, none⟩)] :: setR o.b1 (n : Int) C.mz :: setR o.b2 (n : Int) C.sc :: greyR o.b3 (ints []) (o.room : Int) o.over :: R0) := by
    have := S.box #[.pointer (some ⟨m, 0, none⟩)] 33
    rw [hT] at this
    unfold markParts at this
    rw [hgs] at this
    exact this
  have z0 := (hb.blk 0 rfl).cell 0
  have z1 := (hb.blk 1 rfl).cell 3
  simp only [List.getElem?_toArray, List.getElem?_cons_zero, List.getElem?_cons_succ] at z0 z1
  have HB := Lib.hid hb
  have HO := Lib.hid ho
  clear hb S ho hgs
  refine calls_wide ?_
  refine callsIn_of_wp_marks Try.func82 rfl trivial ?_
  simp only [Try.ntmps82, List.size_toArray, List.length_cons, List.length_nil, Nat.reduceAdd, Nat.reduceSub, Array.replicate_succ, Array.replicate_zero, List.push_toArray, List.append_toArray, List.nil_append, List.cons_append]
  gi_wp2_with (first
    | (gi_at_call 97; refine (calls_in (TGSettle HB.out 4 rfl)).mono ?_; rintro e w1 ⟨rfl, hs⟩; have y0 := (hs.blk 0 rfl).cell 0; simp only [List.getElem?_toArray, List.getElem?_cons_zero, List.getElem?_cons_succ] at y0; have HS1 := Lib.hid hs; clear hs HB)
    | (gi_at_call 49; refine (calls_in (KAll HS1.out m)).mono ?_; rintro e w2 ⟨rfl, hs⟩; have HS2 := Lib.hid hs; clear hs HS1))
  obtain ⟨Y, hY⟩ : ∃ Y, w1.heap.size = Y := ⟨_, rfl⟩
  have hS2 := HS2.out
  rw [hY] at hS2
  have HS3 := Lib.hid (show Sep w0 w2 (blkR Y 33 #[.pointer (some ⟨m, 0, none⟩)] :: blkR m 82 #[.pointer (some ⟨a, 0, none⟩), .pointer (some ⟨o.b1, 0, none⟩), .pointer (some ⟨o.b2, 0, none⟩), .pointer (some ⟨o.b3, 0, none⟩)] :: setR o.b1 (n : Int) C.mz :: blkR T 33 #[.pointer (some ⟨m, 0, none⟩)] :: setR o.b2 (n : Int) C.sc :: greyR o.b3 (ints []) (o.room : Int) false :: R0) from hS2.front 6 [0, 2, 3])
  clear hS2 HS2
  refine wp_range (gf := 69) (lb := #[.pointer (some ⟨Y, 0, none⟩)]) (by rw [← hY]; rfl) (enters_of Try.func69 (by kernel_rfl) rfl) (mark_iter Y m a o.b1 o.b2 o.b3 n C.mz HO.out.size) (fun _ => rfl) HS3.out
    (fun pre Rs => ∃ gs ov, Refill C pre gs o.room ov ∧ Rs = blkR T 33 #[.pointer (some ⟨m, 0, none⟩)] :: setR o.b2 (n : Int) C.sc :: greyR o.b3 (ints gs) (o.room : Int) ov :: R0) (fun _ _ _ => False) ⟨[], false, refill_none _ _, rfl⟩ ?round ?done ?stop
  case stop => rintro _ _ _ _ _ _ h; exact h.elim
  case round =>
    rintro l1 D pre x _ G W1 r hpre ⟨gs, ov, hinv, rfl⟩ hS1
    simp only [List.cons_append, List.nil_append] at hS1
    have hxn : x < n := (mem_elems.1 (hpre.subset (by simp))).1
    have HINV := Lib.hid hinv
    have HS1 := Lib.hid hS1
    clear hpre hinv hS1 HS3 hY y0 z0 z1
    gi_wp2
    refine ⟨[], HS1.out, ?_⟩
    intro r' W2 hS2
    simp only [List.cons_append, List.nil_append] at hS2
    have y0 := (hS2.blk 5 rfl).cell 0
    simp only [List.getElem?_toArray, List.getElem?_cons_zero, List.getElem?_cons_succ] at y0
    have HC := Lib.hid (PGrey hS2 1 2 6 rfl rfl rfl HO.out.size x hxn)
    clear hS2 HS1
    obtain ⟨g, hg⟩ : ∃ g, C.grey x = g := ⟨_, rfl⟩
    have HG := Lib.hid hg
    clear hg
    cases g with
    | false =>
      gi_wp2_with (gi_at_call 80; refine (calls_round (HC.out)).mono ?_; rw [HG.out]; rintro e w4 ⟨rfl, hs⟩; have HS4 := Lib.hid hs; clear hs HC)
      exact ⟨_, ⟨gs, ov, HINV.out.skip HG.out, rfl⟩, HS4.out⟩
    | true =>
      gi_wp2_with (first
        | (gi_at_call 80; refine (calls_round (HC.out)).mono ?_; rw [HG.out]; rintro e w4 ⟨rfl, hs⟩; have y0 := (hs.blk 5 rfl).cell 0; have v3 := (hs.blk 1 rfl).cell 3; simp only [List.getElem?_toArray, List.getElem?_cons_zero, List.getElem?_cons_succ] at y0 v3; have HS4 := Lib.hid hs; clear hs HC)
        | (gi_at_call 57; refine (calls_round (TGPush HS4.out 7 rfl (x : Int) (by rw [ints_length]; have h1 := HINV.out.fits; have h2 := HO.out.few; omega))).mono ?_; rintro e w5 ⟨v, rfl, hs⟩; have HS5 := Lib.hid hs; clear hs HS4))
      refine ⟨_, ⟨_, _, HINV.out.push HG.out, rfl⟩, ?_⟩
      have h2 := HS5.out
      simp only [ints_length, Int.ofNat_lt] at h2
      by_cases h : gs.length < o.room
      · simp only [h, if_true] at h2 ⊢
        rw [← ints_push] at h2
        exact h2
      · simp only [h, if_false] at h2 ⊢
        exact h2
  rintro D _ W1 ⟨gs, ov, hinv, rfl⟩ hS1
  have HINV := Lib.hid hinv
  have HS1 := Lib.hid hS1
  clear hinv hS1 HS3
  gi_wp2
  refine leaves_mark HS1.out (i := 3) rfl (fun _ => results_none rfl _ _ _) ?_
  intro w' hS2
  refine ⟨rfl, gs, ov, HINV.out, ?_⟩
  have h5 : Sep w0 w' (blkR m 82 #[.pointer (some ⟨a, 0, none⟩), .pointer (some ⟨o.b1, 0, none⟩), .pointer (some ⟨o.b2, 0, none⟩), .pointer (some ⟨o.b3, 0, none⟩)] :: setR o.b1 (n : Int) C.mz :: setR o.b2 (n : Int) C.sc :: greyR o.b3 (ints gs) (o.room : Int) ov :: blkR Y 33 #[.pointer (some ⟨m, 0, none⟩)] :: objR D (.deferred none) :: blkR T 33 #[.pointer (some ⟨m, 0, none⟩)] :: R0) := hS2.front 7 [1, 2, 5, 6, 0, 3, 4]
  exact (h5.perm (perm_mid [_, _, _, _] [_, _, _] R0)).right

set_option maxHeartbeats 2000000 in
theorem PDrained {o : Own3} (ho : MarkOk n o C) (S : Sep w0 w (markParts m a n o C ++ R0)) :
    Calls Try.prog 41 #[.pointer (some ⟨m, 0, none⟩)] w fun e w' => ∃ b, e = .returned (.bool b) ∧ (b = true ↔ ∀ x, C.grey x = false) ∧ Sep w0 w' (markParts m a n o C ++ R0) := by
  obtain ⟨T, hT⟩ : ∃ T, w.heap.size = T := ⟨_, rfl⟩
  have hb : Sep w0 ((w.alloc (.cells #[.pointer (some ⟨m, 0, none⟩)] 33)).alloc (.cells #[.bool false] 4)) (blkR (T + 1) 4 #[.bool false] :: blkR T 33 #[.pointer (some ⟨m, 0, none⟩)] :: blkR m 82 #[.pointer (some ⟨a, 0, none⟩), .pointer (some ⟨o.b1, 0, none⟩), .pointer (some ⟨o.b2, 0, none⟩), .pointer (some ⟨o.b3, 0, none⟩)] :: setR o.b1 (n : Int) C.mz :: setR o.b2 (n : Int) C.sc :: greyR o.b3 (ints o.gs) (o.room : Int) o.over :: R0) := by
    have := (S.box #[.pointer (some ⟨m, 0, none⟩)] 33).box #[.bool false] 4
    rw [World.size_alloc, hT] at this
    unfold markParts at this
    exact this
  have z0 := (hb.blk 1 rfl).cell 0
  simp only [List.getElem?_toArray, List.getElem?_cons_zero, List.getElem?_cons_succ] at z0
  have HB := Lib.hid hb
  have HO := Lib.hid ho
  clear hb S ho
  refine calls_wide ?_
  refine callsIn_of_wp_marks Try.func41 rfl trivial ?_
  simp only [Try.ntmps41, List.size_toArray, List.length_cons, List.length_nil, Nat.reduceAdd, Nat.reduceSub, Array.replicate_succ, Array.replicate_zero, List.push_toArray, List.append_toArray, List.nil_append, List.cons_append]
  gi_wp2_with (gi_at_call 49; refine (calls_in (KAll HB.out m)).mono ?_; rintro e w2 ⟨rfl, hs⟩; have HS2 := Lib.hid hs; clear hs HB)
  obtain ⟨Y, hY⟩ : ∃ Y, T + 1 + 1 = Y := ⟨_, rfl⟩
  have hS2 := HS2.out
  simp only [World.size_alloc] at hS2
  rw [hT, hY] at hS2
  have HS3 := Lib.hid (show Sep w0 w2 (blkR Y 33 #[.pointer (some ⟨m, 0, none⟩)] :: blkR m 82 #[.pointer (some ⟨a, 0, none⟩), .pointer (some ⟨o.b1, 0, none⟩), .pointer (some ⟨o.b2, 0, none⟩), .pointer (some ⟨o.b3, 0, none⟩)] :: setR o.b1 (n : Int) C.mz :: blkR (T + 1) 4 #[.bool false] :: blkR T 33 #[.pointer (some ⟨m, 0, none⟩)] :: setR o.b2 (n : Int) C.sc :: greyR o.b3 (ints o.gs) (o.room : Int) o.over :: R0) from hS2.front 7 [0, 3, 4])
  clear hS2 HS2
  refine wp_range (gf := 69) (lb := #[.pointer (some ⟨Y, 0, none⟩)]) (by rw [← hY]; rfl) (enters_of Try.func69 (by kernel_rfl) rfl) (mark_iter Y m a o.b1 o.b2 o.b3 n C.mz HO.out.size) (fun _ => rfl) HS3.out
    (fun pre Rs => (∀ x ∈ pre, C.sc x = true) ∧ Rs = blkR (T + 1) 4 #[.bool false] :: blkR T 33 #[.pointer (some ⟨m, 0, none⟩)] :: setR o.b2 (n : Int) C.sc :: greyR o.b3 (ints o.gs) (o.room : Int) o.over :: R0)
    (fun c pre Rs => c = .ret ∧ (∃ x, C.grey x = true) ∧ Rs = blkR (T + 1) 4 #[.bool false] :: blkR T 33 #[.pointer (some ⟨m, 0, none⟩)] :: setR o.b2 (n : Int) C.sc :: greyR o.b3 (ints o.gs) (o.room : Int) o.over :: R0) ⟨by simp, rfl⟩ ?round ?done ?stop
  case round =>
    rintro l1 D pre x _ G W1 r hpre ⟨hinv, rfl⟩ hS1
    simp only [List.cons_append, List.nil_append] at hS1
    have hxn := mem_elems.1 (hpre.subset (show x ∈ pre ++ [x] by simp))
    have hx2 := hxn.1
    have HXN := Lib.hid hxn
    have HINV := Lib.hid hinv
    have HS1 := Lib.hid hS1
    clear hpre hinv hS1 HS3 hY z0 hxn
    gi_wp2
    refine ⟨[], HS1.out, ?_⟩
    intro r' W2 hS2
    simp only [List.cons_append, List.nil_append] at hS2
    have y0 := (hS2.blk 6 rfl).cell 0
    simp only [List.getElem?_toArray, List.getElem?_cons_zero, List.getElem?_cons_succ] at y0
    have HC := Lib.hid (PScanned hS2 1 7 rfl rfl HO.out.size x hx2)
    clear hS2 HS1
    obtain ⟨g, hg⟩ : ∃ g, C.sc x = g := ⟨_, rfl⟩
    have HG := Lib.hid hg
    clear hg
    cases g with
    | true =>
      gi_wp2_with (gi_at_call 28; refine (calls_round (HC.out)).mono ?_; rw [HG.out]; rintro e w4 ⟨rfl, hs⟩; have HS4 := Lib.hid hs; clear hs HC)
      refine ⟨_, ⟨?_, rfl⟩, HS4.out⟩
      intro y hy
      rcases List.mem_append.1 hy with h | h
      · exact HINV.out y h
      · simp at h; subst h; exact HG.out
    | false =>
      gi_wp2_with (gi_at_call 28; refine (calls_round (HC.out)).mono ?_; rw [HG.out]; rintro e w4 ⟨rfl, hs⟩; have y0 := (hs.blk 5 rfl).cell 0; have fy0 := (hs.blk 5 rfl).frozen 0; simp only [List.getElem?_toArray, List.getElem?_cons_zero, List.getElem?_cons_succ] at y0; have HS4 := Lib.hid hs; clear hs HC)
      refine ⟨_, ⟨rfl, ⟨x, grey_iff.2 ⟨HXN.out.2, HG.out⟩⟩, rfl⟩, ?_⟩
      have := HS4.out.setCell 5 rfl 0 (.bool false)
      simpa using this
  case stop =>
    rintro D c pre _ W1 hpre ⟨rfl, hgr, rfl⟩ hS1
    have HGR := Lib.hid hgr
    have HS1 := Lib.hid hS1
    clear hpre hgr hS1 HS3
    gi_wp2
    refine leaves_box HS1.out 3 rfl 4 rfl (by decide) rfl rfl ?_
    intro w' hS2
    refine ⟨false, rfl, ?_, ?_⟩
    · obtain ⟨x, hx⟩ := HGR.out
      constructor
      · intro h; cases h
      · intro h; rw [h x] at hx; cases hx
    · have h5 : Sep w0 w' (blkR m 82 #[.pointer (some ⟨a, 0, none⟩), .pointer (some ⟨o.b1, 0, none⟩), .pointer (some ⟨o.b2, 0, none⟩), .pointer (some ⟨o.b3, 0, none⟩)] :: setR o.b1 (n : Int) C.mz :: setR o.b2 (n : Int) C.sc :: greyR o.b3 (ints o.gs) (o.room : Int) o.over :: blkR Y 33 #[.pointer (some ⟨m, 0, none⟩)] :: objR D (.deferred none) :: blkR (T + 1) 4 #[.bool false] :: blkR T 33 #[.pointer (some ⟨m, 0, none⟩)] :: R0) := hS2.front 8 [1, 2, 6, 7, 0, 3, 4, 5]
      exact (h5.perm (perm_mid [_, _, _, _] [_, _, _, _] R0)).right
  rintro D _ W1 ⟨hinv, rfl⟩ hS1
  have y0 := (hS1.blk 4 rfl).cell 0
  have fy0 := (hS1.blk 4 rfl).frozen 0
  simp only [List.getElem?_toArray, List.getElem?_cons_zero, List.getElem?_cons_succ] at y0
  have HINV := Lib.hid hinv
  have HS1 := Lib.hid hS1
  clear hinv hS1 HS3
  gi_wp2
  refine leaves_box (HS1.out.setCell 4 rfl 0 (.bool true)) 3 rfl 4 rfl (by decide) rfl rfl ?_
  intro w' hS2
  refine ⟨true, rfl, ?_, ?_⟩
  · refine ⟨fun _ x => ?_, fun _ => rfl⟩
    cases e : C.grey x with
    | false => rfl
    | true =>
      obtain ⟨h1, h2⟩ := grey_iff.1 e
      have := HINV.out x (mem_elems.2 ⟨(HO.out.mz x h1).2, h1⟩)
      rw [this] at h2
      cases h2
  · have h5 : Sep w0 w' (blkR m 82 #[.pointer (some ⟨a, 0, none⟩), .pointer (some ⟨o.b1, 0, none⟩), .pointer (some ⟨o.b2, 0, none⟩), .pointer (some ⟨o.b3, 0, none⟩)] :: setR o.b1 (n : Int) C.mz :: setR o.b2 (n : Int) C.sc :: greyR o.b3 (ints o.gs) (o.room : Int) o.over :: blkR Y 33 #[.pointer (some ⟨m, 0, none⟩)] :: objR D (.deferred none) :: blkR (T + 1) 4 #[.bool true] :: blkR T 33 #[.pointer (some ⟨m, 0, none⟩)] :: R0) := hS2.front 8 [1, 2, 6, 7, 0, 3, 4, 5]
    exact (h5.perm (perm_mid [_, _, _, _] [_, _, _, _] R0)).right
theorem KDrained (S : Sep w0 w L) (i : Nat) (hi : L[i]? = some (markR m a n C)) : Calls Try.prog 41 #[.pointer (some ⟨m, 0, none⟩)] w fun e w' => ∃ b, e = .returned (.bool b) ∧ (b = true ↔ ∀ x, C.grey x = false) ∧ Sep w0 w' L := by
  obtain ⟨o, ho, hs⟩ := mark_open S i hi
  refine (PDrained ho hs).mono ?_
  rintro e w' ⟨b, rfl, hb, hs2⟩
  have := mark_shut ho hs2 hi
  rw [set_self hi] at this
  exact ⟨b, rfl, hb, this⟩
end
end Go.Proofs.Ytacebfocfpbkdaa

/-
  The marker (layer 11): the next grey one. Conditions: as the theorem says.
-/
namespace Go.Proofs.Ytacebfocfpbkdaa
set_option linter.unusedVariables false
set_option linter.unusedSimpArgs false
open Go.RowKit Go.Shelf

/-- The least number of those that p holds of. -/
noncomputable def leastN (p : Nat → Prop) : Nat := open Classical in if h : ∃ k, p k ∧ ∀ j, p j → k ≤ j then h.choose else 0
theorem leastN_is {p : Nat → Prop} (h : ∃ k, p k) : p (leastN p) ∧ ∀ j, p j → leastN p ≤ j := by
  have h1 : ∃ k, p k ∧ ∀ j, p j → k ≤ j := by
    obtain ⟨k, hk⟩ := h
    induction k using Nat.strongRecOn with
    | _ k ih =>
      by_cases e : ∃ j, j < k ∧ p j
      · obtain ⟨j, h1, h2⟩ := e
        exact ih j h1 h2
      · exact ⟨k, hk, fun j hj => Nat.le_of_not_lt fun hl => e ⟨j, hl, hj⟩⟩
  unfold leastN
  rw [dif_pos h1]
  exact h1.choose_spec
theorem leastN_lt {p q : Nat → Prop} {k : Nat} (h : ∃ k, p k) (hq : q k) (hk : k < leastN p) : leastN q < leastN p :=
  Nat.lt_of_le_of_lt ((leastN_is ⟨k, hq⟩).2 k hq) hk

/-- How far the search for a grey one is from its end. -/
inductive NextK (C : Col) (o : Own3) : Nat → Prop
  | any : NextK C o (o.gs.length + 2)
  | fresh (h : ∀ x ∈ o.gs, C.grey x = true) (hv : o.over = true → o.gs ≠ []) : NextK C o 1

section
variable {w0 w : World} {L R0 : List Res} {m a n : Nat} {C : Col}
def NextJ (w0 : World) (m a n : Nat) (C : Col) (R0 : List Res) (w : World) (k : Nat) : Prop := ∃ o, MarkOk n o C ∧ NextK C o k ∧ Sep w0 w (markParts m a n o C ++ R0)
theorem ok_popGrey {o : Own3} {l : List Nat} {r : Nat} (ho : MarkOk n o C) (h : o.gs = l ++ [r]) (hg : C.grey r = true) : MarkOk n { o with gs := l } (C.scan r) := by
  have hG := ho.grey
  rw [h] at hG
  refine ⟨hG.popScan, ho.room, ho.few, fun x hx => ho.refs x (by rw [h]; exact List.mem_append.2 (.inl hx)), ho.mz, fun x hx => ?_, ho.size⟩
  have hx' : (C.sc x || decide (x = r)) = true := hx
  simp only [Bool.or_eq_true, decide_eq_true_eq] at hx'
  rcases hx' with h1 | rfl
  · exact ho.sc x h1
  · exact (grey_iff.1 hg).1
theorem ok_popOther {o : Own3} {l : List Nat} {r : Nat} (ho : MarkOk n o C) (h : o.gs = l ++ [r]) (hg : C.grey r = false) : MarkOk n { o with gs := l } C := by
  have hG := ho.grey
  rw [h] at hG
  exact ⟨hG.pop hg, ho.room, ho.few, fun x hx => ho.refs x (by rw [h]; exact List.mem_append.2 (.inl hx)), ho.mz, ho.sc, ho.size⟩

set_option maxHeartbeats 2000000 in
theorem PNext {o : Own3} (ho : MarkOk n o C) (S : Sep w0 w (markParts m a n o C ++ R0)) :
    Calls Try.prog 62 #[.pointer (some ⟨m, 0, none⟩)] w fun e w' =>
      (∃ (r : Nat) (o : Own3), e = .returned (.tuple #[.int .i64 (r : Int), .bool true]) ∧ C.grey r = true ∧ MarkOk n o (C.scan r) ∧ Sep w0 w' (markParts m a n o C ++ R0)) ∨
      (e = .returned (.tuple #[.int .i64 0, .bool false]) ∧ (∀ x, C.grey x = false) ∧ ∃ o, MarkOk n o C ∧ Sep w0 w' (markParts m a n o C ++ R0)) := by
  have H0 := Lib.hid (show NextJ w0 m a n C R0 w (o.gs.length + 2) from ⟨o, ho, .any, S⟩)
  clear S ho
  go_enter Try.func62, Try.ntmps62
  go_wp2_with fail
  go_loopw [4] (fun _ wr => ∃ k, NextJ w0 m a n C R0 wr k) (fun _ wr => leastN (NextJ w0 m a n C R0 wr))
  case atStart => exact ⟨_, H0.out⟩
  case round =>
    have HREL := Lib.hid hrel
    obtain ⟨o, ho, hk, hs⟩ := (leastN_is hrel).1
    clear hrel H0
    obtain ⟨kk, hkk⟩ : ∃ kk, leastN (NextJ w0 m a n C R0 wr) = kk := ⟨_, rfl⟩
    rw [hkk] at hk
    have HKK := Lib.hid hkk
    have HK := Lib.hid hk
    have HO := Lib.hid ho
    have c3 := (hs.blk 0 rfl).cell 3
    simp only [List.getElem?_toArray, List.getElem?_cons_zero, List.getElem?_cons_succ] at c3
    obtain ⟨gs, hgs⟩ : ∃ gs, o.gs = gs := ⟨_, rfl⟩
    have HGS := Lib.hid hgs
    unfold markParts at hs
    rw [hgs] at hs
    clear hkk hk ho hgs
    rcases List.eq_nil_or_concat gs with rfl | ⟨l, r, hlr⟩
    · have HC := Lib.hid (TGPopNo hs 3 rfl)
      obtain ⟨ov, hov⟩ : ∃ ov, o.over = ov := ⟨_, rfl⟩
      have HOV := Lib.hid hov
      rw [hov] at hs
      have HS := Lib.hid hs
      have HC2 := Lib.hid (TGOver hs 3 rfl)
      clear hs hov
      cases ov with
      | false =>
        go_wp2_with (first
          | (go_at_call 79; refine (HC.out).mono ?_; rintro e w1 ⟨rfl, rfl⟩; clear HC)
          | (go_at_call 81; refine (HC2.out).mono ?_; rintro e w1 ⟨rfl, rfl⟩; clear HC2))
        go_ret2
        right
        refine ⟨rfl, ?_, o, HO.out, ?_⟩
        · have hG := HO.out.grey
          rw [HGS.out, HOV.out] at hG
          exact hG.empty
        · have := HS.out
          rw [← HOV.out] at this
          unfold markParts
          rw [HGS.out]
          exact this
      | true =>
        have HC3 := Lib.hid (KRefill (w0 := w0) (w := wr) (m := m) (a := a) (R0 := R0) HO.out HGS.out (by
          have := HS.out
          rw [← HOV.out] at this
          unfold markParts
          rw [HGS.out]
          exact this))
        go_wp2_with (first
          | (go_at_call 79; refine (HC.out).mono ?_; rintro e w1 ⟨rfl, rfl⟩; clear HC)
          | (go_at_call 81; refine (HC2.out).mono ?_; rintro e w1 ⟨rfl, rfl⟩; clear HC2)
          | (go_at_call 82; refine (HC3.out).mono ?_; rintro e w2 ⟨rfl, gs, ov, hr, hs⟩; have HR := Lib.hid hr; have HS2 := Lib.hid hs; clear hs hr HC3))
        have hJ : NextJ w0 m a n C R0 w2 1 := ⟨_, HR.out.ok HO.out, .fresh HR.out.grey (fun hv => by
          have h1 := HR.out.full hv
          have h2 := HO.out.room
          intro e
          dsimp only at e
          rw [e] at h1
          simp at h1
          omega), HS2.out⟩
        go_roundw
        case rel => exact ⟨1, hJ⟩
        case measure =>
          refine leastN_lt HREL.out hJ ?_
          rw [HKK.out]
          cases HK.out with
          | any => omega
          | fresh h hv => exact absurd HGS.out (hv HOV.out)
    · rw [List.concat_eq_append] at hlr
      subst hlr
      rw [ints_push] at hs
      have HC := Lib.hid (TGPopYes hs 3 rfl)
      have hrn : r < n := (HO.out.refs r (by rw [HGS.out]; simp)).2
      clear hs
      obtain ⟨g, hg⟩ : ∃ g, C.grey r = g := ⟨_, rfl⟩
      have HG := Lib.hid hg
      clear hg
      cases g with
      | true =>
        go_wp2_with (first
          | (go_at_call 79; refine (HC.out).mono ?_; rintro e w1 ⟨rfl, hs⟩; have HC2 := Lib.hid (PGrey hs 0 1 2 rfl rfl rfl HO.out.size r hrn); clear HC hs)
          | (go_at_call 80; refine (HC2.out).mono ?_; rw [HG.out]; rintro e w2 ⟨rfl, hs⟩; have HS2 := Lib.hid hs; clear hs HC2))
        go_ret2
        exact .inl ⟨r, { o with gs := l }, rfl, HG.out, ok_popGrey HO.out HGS.out HG.out, HS2.out⟩
      | false =>
        go_wp2_with (first
          | (go_at_call 79; refine (HC.out).mono ?_; rintro e w1 ⟨rfl, hs⟩; have HC2 := Lib.hid (PGrey hs 0 1 2 rfl rfl rfl HO.out.size r hrn); clear HC hs)
          | (go_at_call 80; refine (HC2.out).mono ?_; rw [HG.out]; rintro e w2 ⟨rfl, hs⟩; have HS2 := Lib.hid hs; clear hs HC2))
        have hJ : NextJ w0 m a n C R0 w2 (l.length + 2) := ⟨_, ok_popOther HO.out HGS.out HG.out, .any, HS2.out⟩
        go_roundw
        case rel => exact ⟨_, hJ⟩
        case measure =>
          refine leastN_lt HREL.out hJ ?_
          rw [HKK.out]
          cases HK.out with
          | any => rw [HGS.out]; simp
          | fresh h hv =>
            have := h r (by rw [HGS.out]; simp)
            rw [HG.out] at this
            cases this
end
end Go.Proofs.Ytacebfocfpbkdaa

/-
  Loops over functions that run in a loop: the marks that they leave in the frame, as one thing. Conditions: no program is named here.
-/
namespace Go.Proofs.Ytacebfocfpbkdaa
set_option linter.unusedVariables false
set_option linter.unusedSimpArgs false
open Go.RowKit Go.Shelf

/-- The marks of the loops over functions that ran. -/
def mk (Ds : List Nat) : List Deferred := Ds.map fun D => { target := .collected D, args := #[] }
/-- Their blocks: no call is put off. -/
def marksR (Ds : List Nat) : Res := starR (Ds.map fun D => objR D (.deferred (some [])))

section
variable {P : Program} {w w0 W : World} {R H L : List Res} {Ds : List Nat} {D : Nat}

theorem Sep.noMarks (S : Sep w0 w L) : Sep w0 w (marksR [] :: L) := Sep.shutHead (K := []) S
theorem Sep.addMark (S : Sep w0 w (objR D (.deferred (some [])) :: marksR Ds :: L)) : Sep w0 w (marksR (D :: Ds) :: L) :=
  Sep.shutHead (K := objR D (.deferred (some [])) :: Ds.map fun D => objR D (.deferred (some []))) (S.swap.openHead.perm (perm_mid _ [_] _))
theorem Sep.popMark (S : Sep w0 w (marksR (D :: Ds) :: L)) : Sep w0 w (objR D (.deferred (some [])) :: marksR Ds :: L) :=
  (Sep.shutHead (K := Ds.map fun D => objR D (.deferred (some []))) ((Sep.openHead S).perm (perm_mid [_] _ L))).swap

/-- A loop over a function, in no round, beside marks. -/
theorem wp_rangeM {α : Type} {g : Operand} {ps : Array Tmp} {assign body : Code} {Q : Exit → Act → World → Prop} {t : Array Value}
    {gf : Nat} {lb : Array Value} (hg : (Act.mk t (mk Ds)).eval g = .func (.func gf) #[] lb) (eg : ∀ args w, (callFunc gf args).run P w = .ok (.enter gf args) w)
    {encs : α → Array Value} {xs : List α} {K : List α → List Res} (hit : Iter P gf lb encs xs K) (hps : ∀ x, (encs x).size = ps.size)
    (S : Sep w0 w (K [] ++ (marksR Ds :: R)))
    (Φ : List α → List Res → Prop) (Φx : Code → List α → List Res → Prop) (h0 : Φ [] R)
    (hround : ∀ (l : Nat) (pre : List α) (x : α) (R G : List Res) (W : World) (r : Loop), (pre ++ [x]) <+: xs → Φ pre R → Sep w0 W (K (pre ++ [x]) ++ (objR l (.loop r) :: (R ++ G))) →
      assign.wpIn (Fence.wide.inRound l) 0 P (Exit.then (fun a' W' => ∃ B, Sep w0 W' (K (pre ++ [x]) ++ (objR l (.loop r) :: (B ++ (R ++ G)))) ∧
        ∀ (r' : Loop) (W2 : World), Sep w0 W2 (K (pre ++ [x]) ++ (objR l (.loop r') :: (B ++ (R ++ G)))) → body.wpIn (Fence.wide.inRound l) 0 P (roundS w0 K [objR l (.loop r')] G Φ Φx (pre ++ [x])) a' W2) (fun _ _ _ => False))
        { tmps := (ps.zip (encs x)).foldl (fun t (p, v) => t.setIfInBounds p v) t, defers := [] } W)
    (hdone : ∀ (Ds : List Nat) (R : List Res) (W : World), Φ xs R → Sep w0 W (K xs ++ (marksR Ds :: R)) → Q .normal { tmps := t, defers := mk Ds } W)
    (hstop : ∀ (Ds : List Nat) (c : Code) (pre : List α) (R : List Res) (W : World), pre <+: xs → Φx c pre R → Sep w0 W (K pre ++ (marksR Ds :: R)) → c.wpIn Fence.wide 0 P Q { tmps := t, defers := mk Ds } W) :
    (Code.rangeFunc g ps assign body).wpIn Fence.wide 0 P Q { tmps := t, defers := mk Ds } w := by
  refine wp_range hg eg hit hps S (fun pre Rs => ∃ R, Rs = marksR Ds :: R ∧ Φ pre R) (fun c pre Rs => ∃ R, Rs = marksR Ds :: R ∧ Φx c pre R) ⟨R, rfl, h0⟩ ?_ ?_ ?_
  · rintro l D pre x _ G W r hpre ⟨R, rfl, hΦ⟩ hS
    refine wpIn_mono (hround l pre x R (objR D (.deferred (some [])) :: marksR Ds :: G) W r hpre hΦ ?_) ?_
    · exact hS.perm (List.Perm.append_left _ (List.Perm.cons _ (perm_mid [_, _] R G)))
    · rintro e a' W' he
      cases e with
      | exit _ => exact he
      | goto _ => exact he
      | ret => exact he
      | panic _ => exact he
      | outgrown => exact he
      | normal =>
      obtain ⟨B, hS', hb⟩ := he
      refine ⟨B, hS'.perm (List.Perm.append_left _ (List.Perm.cons _ ?_)), fun r' W2 hS2 => wpIn_mono (hb r' W2 (hS2.perm (List.Perm.append_left _ (List.Perm.cons _ ?_)))) ?_⟩
      · exact (List.Perm.append_left B (perm_mid R [_, _] G)).trans (perm_mid B [_] (marksR Ds :: (R ++ G)))
      · exact (perm_mid [_] B (marksR Ds :: (R ++ G))).trans (List.Perm.append_left B (perm_mid [_, _] R G))
      · rintro e a3 W3 he
        have key : ∀ {R' : List Res}, Sep w0 W3 (K (pre ++ [x]) ++ ([objR l (.loop r')] ++ (R' ++ (objR D (.deferred (some [])) :: marksR Ds :: G)))) → Sep w0 W3 (K (pre ++ [x]) ++ ([objR l (.loop r'), objR D (.deferred (some []))] ++ ((marksR Ds :: R') ++ G))) :=
          fun h => h.perm (List.Perm.append_left _ (List.Perm.cons _ (perm_mid _ [_, _] G)))
        cases e with
        | normal => obtain ⟨R', h1, h2⟩ := he; exact ⟨_, ⟨R', rfl, h1⟩, key h2⟩
        | exit _ => obtain ⟨R', h1, h2⟩ := he; exact ⟨_, ⟨R', rfl, h1⟩, key h2⟩
        | goto _ => obtain ⟨R', h1, h2⟩ := he; exact ⟨_, ⟨R', rfl, h1⟩, key h2⟩
        | ret => obtain ⟨R', h1, h2⟩ := he; exact ⟨_, ⟨R', rfl, h1⟩, key h2⟩
        | panic _ => exact he
        | outgrown => exact he
  · rintro D _ W ⟨R, rfl, hΦ⟩ hS
    exact hdone (D :: Ds) R W hΦ (((hS.perm (perm_mid (K xs) [_, _] R)).addMark).perm (perm_mid [_] (K xs) R))
  · rintro D c pre _ W hpre ⟨R, rfl, hΦ⟩ hS
    exact hstop (D :: Ds) c pre R W hpre hΦ (((hS.perm (perm_mid (K pre) [_, _] R)).addMark).perm (perm_mid [_] (K pre) R))

/-- The return of a function that held such loops. -/
theorem leavesM {fn : Func} {tmps : Array Value} {Rt : Ending → World → Prop} (h : ∀ w', Sep w0 w' L → ∃ v, (results fn tmps).run P w' = .ok v w' ∧ Rt (.returned v) w') :
    ∀ (Ds : List Nat) (w : World), Sep w0 w (marksR Ds :: L) → LeavesInM Fence.wide 0 P fn tmps Rt (mk Ds) .returning w
  | [], w, S => h w (Sep.openHead (K := []) S)
  | D :: Ds, w, S => ⟨by simp, .inl ⟨D, _, rfl, run_takeDeferred (S.popMark.obj (i := 0) rfl), leavesM h Ds _ (S.popMark.putObj 0 rfl (.deferred none)).tail⟩⟩

/-- The slots of S hold what v says. -/
def setS (S : List Nat) (v : Nat → Value) (t : Array Value) : Array Value := S.foldl (fun t n => t.setIfInBounds n (v n)) t

/-- A loop whose rounds write the slots of S, and leave marks. -/
theorem wpIn_loopM {c : Code} {F : Fence} {n : Nat} {Q : Exit → Act → World → Prop} {t : Array Value} (S : List Nat) (J : (Nat → Value) → List Nat → World → Prop) (μ : (Nat → Value) → World → Nat)
    (h0 : J (fun n => t.getD n undef) Ds w) (ht : t = setS S (fun n => t.getD n undef) t)
    (round : ∀ v Ds w, J v Ds w → c.wpIn F n P (Exit.then (fun a' w' => ∃ Ds', a'.defers = mk Ds' ∧ a'.tmps = setS S (fun n => a'.tmps.getD n undef) t ∧ J (fun n => a'.tmps.getD n undef) Ds' w' ∧ μ (fun n => a'.tmps.getD n undef) w' < μ v w) Q) { tmps := setS S v t, defers := mk Ds } w) :
    (Code.loop c).wpIn F n P Q { tmps := t, defers := mk Ds } w := by
  refine wpIn_loop (fun a w => ∃ Ds, a.defers = mk Ds ∧ a.tmps = setS S (fun n => a.tmps.getD n undef) t ∧ J (fun n => a.tmps.getD n undef) Ds w) (fun a w => μ (fun n => a.tmps.getD n undef) w) ⟨Ds, rfl, ht, h0⟩ ?_
  rintro ⟨t', ds'⟩ w ⟨Ds, hd, ht', hJ⟩
  simp only at hd ht' hJ
  subst hd
  have h := round _ Ds w hJ
  rw [← ht'] at h
  refine wpIn_mono h ?_
  rintro e a' w' he
  cases e with
  | normal => obtain ⟨Ds', h1, h2, h3, h4⟩ := he; exact ⟨⟨Ds', h1, h2, h3⟩, h4⟩
  | exit _ => exact he
  | goto _ => exact he
  | ret => exact he
  | panic _ => exact he
  | outgrown => exact he
end
end Go.Proofs.Ytacebfocfpbkdaa

/-
  The marker (layer 11): so many grey ones are scanned. Conditions: as the theorem says.
-/
namespace Go.Proofs.Ytacebfocfpbkdaa
set_option linter.unusedVariables false
set_option linter.unusedSimpArgs false
open Go.RowKit Go.Shelf
attribute [local go_sem] Oper.semAt_some wide_fn round_fn wide_depth round_depth
attribute [local simp] wide_fn round_fn wide_depth round_depth

theorem shades_push (C : Col) (l : List Nat) (x : Nat) : C.shades (l ++ [x]) = (C.shades l).shade x := by simp [Col.shades]

section
variable {w0 w : World} {L R0 : List Res} {m a n : Nat} {C : Col}
/-- What a trace of k comes to. -/
structure Traced (pts : Nat → List Nat) (k : Nat) (d : Nat) (C C' : Col) : Prop where
  steps : Steps pts d C C'
  most : d ≤ k
  end_ : d < k → ∀ x, C'.grey x = false
set_option maxRecDepth 100000 in
set_option maxHeartbeats 4000000 in
theorem PTrace {A : AR} {O : Nat → Prop} {fs : Nat → List Nat} (hH : Heap A O fs) (hn : A.size = (n : Int)) (hO : ∀ x, C.mz x = true → O x) (S : Sep w0 w (markR m a n C :: arenaR a A :: R0)) (k : Nat) (hk : k ≤ 1000000) :
    Calls Try.prog 37 #[.pointer (some ⟨m, 0, none⟩), .int .i64 (k : Int)] w fun e w' => ∃ (d : Nat) (C' : Col), e = .returned (.int .i64 (d : Int)) ∧ Traced (ptsOf fs) k d C C' ∧ Sep w0 w' (markR m a n C' :: arenaR a A :: R0) := by
  obtain ⟨T, hT⟩ : ∃ T, w.heap.size = T := ⟨_, rfl⟩
  have hb : Sep w0 (w.alloc (.cells #[.pointer (some ⟨m, 0, none⟩)] 33)) (marksR [] :: blkR T 33 #[.pointer (some ⟨m, 0, none⟩)] :: markR m a n C :: arenaR a A :: R0) := by
    have := S.box #[.pointer (some ⟨m, 0, none⟩)] 33
    rw [hT] at this
    exact this.noMarks
  have HB := Lib.hid hb
  have HH := Lib.hid hH
  have HN := Lib.hid hn
  have HO := Lib.hid hO
  have hk0 : ¬ (k : Int) < 0 := by omega
  have hk1 : (0 : Int) ≤ (k : Int) := by omega
  clear S hH hn hO hb
  refine calls_wide ?_
  refine callsIn_of_wp_marks Try.func37 rfl trivial ?_
  simp only [Try.ntmps37, List.size_toArray, List.length_cons, List.length_nil, Nat.reduceAdd, Nat.reduceSub, Array.replicate_succ, Array.replicate_zero, List.push_toArray, List.append_toArray, List.nil_append, List.cons_append]
  gi_wp2
  refine wpIn_loopM (Ds := []) [4, 5, 6, 7, 8, 11, 12, 13, 14, 15, 16, 17, 18, 19, 20, 21, 22, 23, 24, 25, 26, 27, 28, 29, 30, 31, 32, 33, 35, 36, 37, 38] (fun v Ds wr => ∃ (d : Nat) (C1 : Col), d ≤ k ∧ v 11 = .int .i64 d ∧ Steps (ptsOf fs) d C C1 ∧ Sep w0 wr (marksR Ds :: blkR T 33 #[.pointer (some ⟨m, 0, none⟩)] :: markR m a n C1 :: arenaR a A :: R0)) (fun v _ => k + 1 - (intOf (v 11)).toNat) ⟨0, C, by omega, rfl, .zero C, HB.out⟩ (by kernel_rfl) ?_
  clear HB
  rintro v Ds wr ⟨d, C1, hd, hv, hst, hs⟩
  simp only [setS, List.foldl_cons, List.foldl_nil, List.setIfInBounds_toArray, List.set_cons_succ, List.set_cons_zero]
  simp only [hv, hT]
  have z0 := (hs.blk 1 rfl).cell 0
  simp only [List.getElem?_toArray, List.getElem?_cons_zero] at z0
  have HST := Lib.hid hst
  by_cases hlt : d < k
  · have hltI : (d : Int) < (k : Int) := by omega
    obtain ⟨o, ho, hso⟩ := mark_open hs 2 rfl
    have HC := Lib.hid (PNext ho hso)
    clear hst hs ho hso
    gi_wp2_with (first
      | (gi_at_call 62; refine (calls_in HC.out).mono ?_; rintro e w2 hres; rcases hres with ⟨r, o, rfl, hg, ho, hs⟩ | ⟨rfl, hno, o, ho, hs⟩; all_goals (have HOK := Lib.hid ho; have y0 := (hs.blk 5 rfl).cell 0; have s2 := (hs.blk 0 rfl).cell 2; simp only [List.getElem?_toArray, List.getElem?_cons_zero, List.getElem?_cons_succ] at y0 s2; clear ho HC z0))
      | (gi_at_call 56; have hOr : O r := HST.out.within (fun x hx => HH.out.pts hx) HO.out r (grey_iff.1 hg).1; have hrn : r < n := (by have := HH.out.lt hOr; rw [HN.out] at this; omega); have HG := Lib.hid hg; have HOR := Lib.hid hOr; clear hg hOr; refine (calls_in (TSPut hs 2 rfl (by have := HOK.out.size; omega) r (by omega))).mono ?_; clear hs y0 s2; rintro e w3 ⟨rfl, hs⟩; have u0 := (hs.blk 5 rfl).cell 0; have t0 := (hs.blk 0 rfl).cell 0; simp only [List.getElem?_toArray, List.getElem?_cons_zero, List.getElem?_cons_succ] at u0 t0; have HC3 := Lib.hid (CPoints (mark_shutHead HOK.out (show Sep w0 w3 (markParts m a n o (C1.scan r) ++ _) from hs)) a (r : Int)); clear hs)
      | (gi_at_call 40; refine (calls_in HC3.out).mono ?_; rintro e w4 ⟨rfl, hs⟩; have HS4 := Lib.hid hs; clear hs HC3))
    · obtain ⟨P2, hP2⟩ : ∃ P, w3.heap.size = P := ⟨_, rfl⟩
      have hs9 := HS4.out
      simp only [hP2] at hs9 ⊢
      have HS9 := Lib.hid (show Sep w0 w4 ([blkR P2 28 #[.pointer (some ⟨a, 0, none⟩)], blkR (P2 + 1) 36 #[.int .i64 (r : Int)], arenaR a A] ++ (marksR Ds :: blkR T 33 #[.pointer (some ⟨m, 0, none⟩)] :: markR m a n (C1.scan r) :: R0)) from hs9.front 6 [1, 0, 5, 3, 4, 2])
      clear hs9 HS4 u0 t0
      refine wp_rangeM (gf := 65) (lb := #[.pointer (some ⟨P2, 0, none⟩), .pointer (some ⟨P2 + 1, 0, none⟩)]) rfl (enters_of Try.func65 (by kernel_rfl) rfl) (hpoints_iter P2 (P2 + 1) a HH.out HOR.out) (fun _ => rfl) HS9.out
        (fun pre Rs => Rs = blkR T 33 #[.pointer (some ⟨m, 0, none⟩)] :: markR m a n ((C1.scan r).shades pre) :: R0) (fun _ _ _ => False) rfl ?round ?done ?stop
      case stop => rintro _ _ _ _ _ _ h; exact h.elim
      case round =>
        rintro l1 pre x _ G V1 r1 hpre rfl hS1
        simp only [List.cons_append, List.nil_append] at hS1
        have hx : O x := HH.out.pts HOR.out x (hpre.subset (by simp))
        have hxn : x < n := by have := HH.out.lt hx; rw [HN.out] at this; omega
        have hx0 : 0 < x := (HH.out.pos hx).1
        have HS1 := Lib.hid hS1
        clear hpre hS1 HS9 hx
        gi_wp2
        refine ⟨[], HS1.out, ?_⟩
        intro r' V2 hS2
        simp only [List.cons_append, List.nil_append] at hS2
        have y0 := (hS2.blk 4 rfl).cell 0
        simp only [List.getElem?_toArray, List.getElem?_cons_zero, List.getElem?_cons_succ] at y0
        have HC := Lib.hid (KShade hS2 5 rfl x hx0 hxn)
        clear hS2 HS1
        gi_wp2_with (gi_at_call 20; refine (calls_round (HC.out)).mono ?_; rintro e w5 ⟨rfl, hs⟩; have HS5 := Lib.hid hs; clear hs HC)
        refine ⟨_, rfl, ?_⟩
        rw [shades_push]
        exact HS5.out
      rintro Ds2 _ V hR hS
      subst hR
      simp only [List.cons_append, List.nil_append] at hS
      have HSD := Lib.hid hS
      clear hS HS9
      gi_wp2
      refine ⟨Ds2, rfl, by kernel_rfl, ⟨d + 1, (C1.scan r).shades (ptsOf fs r), hlt, rfl, HST.out.succ r HG.out, ?_⟩, ?_⟩
      · exact (HSD.out.front 6 [0, 1, 3, 4, 5, 2]).tail.tail
      · show k + 1 - (intOf (.int .i64 ((d : Int) + 1))).toNat < k + 1 - (intOf (.int .i64 (d : Int))).toNat
        simp [intOf]
        omega
    · have HNO := Lib.hid hno
      have HS2 := Lib.hid hs
      clear hs hno y0 s2
      refine leavesM (L := blkR T 33 #[.pointer (some ⟨m, 0, none⟩)] :: markR m a n C1 :: arenaR a A :: R0) (fun w' hs => ⟨_, results_tmp rfl _ _ _, d, C1, rfl, ⟨HST.out, hd, fun _ => HNO.out⟩, hs.tail⟩) Ds w2 ?_
      have := mark_shutHead HOK.out HS2.out
      exact this.front 3 [1, 2, 0]
  · obtain rfl : d = k := by omega
    have HS := Lib.hid hs
    clear hs hst
    gi_wp2
    refine leavesM (L := blkR T 33 #[.pointer (some ⟨m, 0, none⟩)] :: markR m a n C1 :: arenaR a A :: R0) (fun w' hs => ⟨_, results_tmp rfl _ _ _, d, C1, rfl, ⟨HST.out, hd, fun h => absurd h (by omega)⟩, hs.tail⟩) Ds wr HS.out
end
end Go.Proofs.Ytacebfocfpbkdaa

/-
  The marker (layer 11): Trace, wherever marker and arena lie; and of less than nothing. Conditions: as the theorem says.
-/
namespace Go.Proofs.Ytacebfocfpbkdaa
set_option linter.unusedVariables false
set_option linter.unusedSimpArgs false
open Go.RowKit Go.Shelf
attribute [local go_sem] Oper.semAt_some wide_fn round_fn wide_depth round_depth
attribute [local simp] wide_fn round_fn wide_depth round_depth

section
variable {w0 w : World} {L R0 : List Res} {m a n : Nat} {C : Col}
theorem KTrace {A : AR} {O : Nat → Prop} {fs : Nat → List Nat} (hH : Heap A O fs) (hn : A.size = (n : Int)) (hO : ∀ x, C.mz x = true → O x) (S : Sep w0 w L) (i j : Nat) (hi : L[i]? = some (markR m a n C)) (hj : L[j]? = some (arenaR a A)) (hne : i ≠ j) (k : Nat) (hk : k ≤ 1000000) :
    Calls Try.prog 37 #[.pointer (some ⟨m, 0, none⟩), .int .i64 (k : Int)] w fun e w' => ∃ (d : Nat) (C' : Col), e = .returned (.int .i64 (d : Int)) ∧ Traced (ptsOf fs) k d C C' ∧ Sep w0 w' (L.set i (markR m a n C')) := by
  obtain ⟨R, hs, hback⟩ := S.two i j hi hj hne
  refine (PTrace hH hn hO hs k hk).mono ?_
  rintro e w' ⟨d, C', rfl, ht, hs'⟩
  exact ⟨d, C', rfl, ht, hback _ _ hs'⟩
set_option maxRecDepth 100000 in
theorem KTraceNeg (S : Sep w0 w L) (m : Nat) (k : Int) (hk : k < 0) :
    Calls Try.prog 37 #[.pointer (some ⟨m, 0, none⟩), .int .i64 k] w fun e w' => e = .returned (.int .i64 0) ∧ Sep w0 w' L := by
  have hb := (S.box #[.pointer (some ⟨m, 0, none⟩)] 33).noMarks
  have hnk : ¬ 0 ≤ k := by omega
  have HB := Lib.hid hb
  clear S hb
  refine calls_wide ?_
  refine callsIn_of_wp_marks Try.func37 rfl trivial ?_
  simp only [Try.ntmps37, List.size_toArray, List.length_cons, List.length_nil, Nat.reduceAdd, Nat.reduceSub, Array.replicate_succ, Array.replicate_zero, List.push_toArray, List.append_toArray, List.nil_append, List.cons_append]
  gi_wp2
  refine wpIn_loopM (Ds := []) [4, 5, 6, 7, 8, 11, 12, 13, 14, 15, 16, 17, 18, 19, 20, 21, 22, 23, 24, 25, 26, 27, 28, 29, 30, 31, 32, 33, 35, 36, 37, 38] (fun v Ds wr => v 11 = .int .i64 0 ∧ Sep w0 wr (marksR Ds :: blkR w.heap.size 33 #[.pointer (some ⟨m, 0, none⟩)] :: L)) (fun v _ => 0) ⟨rfl, HB.out⟩ (by kernel_rfl) ?_
  clear HB
  rintro v Ds wr ⟨hv, hs⟩
  simp only [setS, List.foldl_cons, List.foldl_nil, List.setIfInBounds_toArray, List.set_cons_succ, List.set_cons_zero]
  simp only [hv]
  have HS := Lib.hid hs
  clear hs
  gi_wp2
  exact leavesM (L := blkR w.heap.size 33 #[.pointer (some ⟨m, 0, none⟩)] :: L) (fun w' hs => ⟨_, results_tmp rfl _ _ _, rfl, hs.tail⟩) Ds wr HS.out
end
end Go.Proofs.Ytacebfocfpbkdaa

/-
  fit of layer 11. Conditions: as the theorem says.
-/
namespace Go.Proofs.Ytacebfocfpbkdaa
set_option linter.unusedVariables false
set_option linter.unusedSimpArgs false
open Go.RowKit Go.Shelf

theorem Heap.born {A A' : AR} {O : Nat → Prop} {fs : Nat → List Nat} {r n : Nat} (h : Heap A O fs) (hN : NewIs A n r A') : Heap A' (fun y => O y ∨ y = r) (updT fs r (List.replicate n 0)) := by
  have hr : ∀ y, O y → y ≠ r := by
    intro y hy
    obtain ⟨x, ho⟩ := h.obj y hy
    exact (hN.old _ _ _ ho).2
  refine ⟨hN.wf, ?_, ?_⟩
  · intro y hy
    rcases hy with h1 | rfl
    · obtain ⟨x, ho⟩ := h.obj y h1
      refine ⟨x, ?_⟩
      simp only [updT, hr y h1, if_false]
      exact (hN.old _ _ _ ho).1
    · refine ⟨0, ?_⟩
      simp only [updT, if_true, List.map_replicate]
      exact hN.obj
  · intro y hy z hz
    rcases hy with h1 | rfl
    · simp only [updT, hr y h1, if_false] at hz
      rcases h.closed y h1 z hz with h2 | h2
      · exact .inl h2
      · exact .inr (.inl h2)
    · simp only [updT, if_true] at hz
      exact .inl (List.mem_replicate.1 hz).2
theorem heap_new (m : Nat) (ids : Nat × Nat × Nat) (hm : m ≤ 64) : Heap (AR.new m ids) (fun _ => False) (fun _ => []) := ⟨AR.new_wf m ids hm, fun _ h => h.elim, fun _ h => h.elim⟩
theorem size_n {A : AR} {m : Nat} (h : A.n = m) : A.size = ((m * 32 + 1 : Nat) : Int) := by
  unfold AR.size
  rw [h]
/-- One grey one is scanned. -/
theorem trace_one {pts : Nat → List Nat} {d x : Nat} {C' : Col} (h : Traced pts 1 d (Col.white.shade x) C') : d = 1 ∧ C' = ((Col.white.shade x).scan x).shades (pts x) := by
  obtain ⟨hs, hm, he⟩ := h
  have hg : ∀ r, (Col.white.shade x).grey r = true → r = x := by
    intro r hr
    obtain ⟨h1, _⟩ := grey_iff.1 hr
    simpa [Col.white, Col.shade] using h1
  have hx : (Col.white.shade x).grey x = true := by simp [Col.white, Col.shade, Col.grey]
  cases hs with
  | zero => have := he (by omega) x; rw [hx] at this; cases this
  | @succ d' _ C1 r hs hr =>
    have hd : d' = 0 := by omega
    subst hd
    cases hs with
    | zero =>
      have := hg r hr
      subst this
      exact ⟨rfl, rfl⟩
set_option maxHeartbeats 2000000 in
theorem fit11 (w : World) : Calls Try.prog 42 #[] w fun e w' => e = .returned (.bool true) ∧ Chg [] w w' := by
  go_enter Try.func42, Try.ntmps42
  go_wp2_with (first
    | (go_at_call 51; refine (TANew (Sep.start w) 2 2 (by decide)).mono ?_; rintro e w1 ⟨a, ids, rfl, hs⟩; have HT := Lib.hid (new_total 2 ids (by omega)); have HC := Lib.hid (ONew hs 0 rfl (AR.new_wf 2 ids (by omega)) 1 (by omega) (by rw [(new_total 2 ids (by omega)).1, (new_total 2 ids (by omega)).2.1]; decide)); clear hs)
    | (go_at_call 52; refine (HC.out).mono ?_; rintro e w2 ⟨x, A1, rfl, hs, hN⟩; have HN1 := Lib.hid hN; have HC2 := Lib.hid (ONew hs 0 rfl hN.wf 1 (by omega) (by rw [hN.total, hN.n, HT.out.1, HT.out.2.1]; decide)); clear hs hN HC)
    | (go_at_call 52; refine (HC2.out).mono ?_; rintro e w3 ⟨y, A2, rfl, hs, hN⟩; have HN2 := Lib.hid hN; have HH := Lib.hid (((heap_new 2 ids (by omega)).born HN1.out).born hN); have HXY := Lib.hid (show x ≠ y from (hN.old _ _ _ HN1.out.obj).2); have HC3 := Lib.hid (HSetField hs 0 rfl HH.out (r := x) (.inl (.inr rfl)) 0 y (by simp [updT, HXY.out]) (.inr (.inr rfl))); clear hs hN HC2)
    | (go_at_call 39; refine (HC3.out).mono ?_; rintro e w4 ⟨A3, rfl, hs, hS, hH⟩; have HH3 := Lib.hid hH; have HSZ := Lib.hid (size_n (hS.n.trans (HN2.out.n.trans (HN1.out.n.trans HT.out.2.1)))); have HC4 := Lib.hid (KNew hs 0 rfl HSZ.out (by omega) 1 (by omega)); clear hs hS hH HC3)
    | (go_at_call 19; refine (HC4.out).mono ?_; rintro e w5 ⟨m, rfl, hs⟩; have HX0 := Lib.hid (HH3.out.pos (r := x) (.inl (.inr rfl))); have HY0 := Lib.hid (HH3.out.pos (r := y) (.inr rfl)); have HXL := Lib.hid (show x < 2 * 32 + 1 by have := HH3.out.lt (r := x) (.inl (.inr rfl)); rw [HSZ.out] at this; omega); have HYL := Lib.hid (show y < 2 * 32 + 1 by have := HH3.out.lt (r := y) (.inr rfl); rw [HSZ.out] at this; omega); have HC5 := Lib.hid (KShade hs 0 rfl x HX0.out.1 HXL.out); clear hs HC4)
    | (go_at_call 20; refine (HC5.out).mono ?_; rw [show Col.white.mz x = false from rfl]; rintro e w6 ⟨rfl, hs⟩; have HC6 := Lib.hid (KShade hs 0 rfl x HX0.out.1 HXL.out); clear hs HC5)
    | (go_at_call 20; refine (HC6.out).mono ?_; rw [show (Col.white.shade x).mz x = true by simp [Col.shade]]; rintro e w7 ⟨rfl, hs⟩; have e1 := shade_same (C := Col.white.shade x) (r := x) (by simp [Col.shade]); rw [e1] at hs; have HC7 := Lib.hid (KTrace HH3.out HSZ.out (C := Col.white.shade x) (fun z hz => .inl (.inr (by simpa [Col.white, Col.shade] using hz))) hs 0 1 rfl rfl (by decide) 1 (by omega)); clear hs HC6 e1)
    | (go_at_call 37; refine (HC7.out).mono ?_; rintro e w8 ⟨d, C1, rfl, ht, hs⟩; obtain ⟨rfl, rfl⟩ := trace_one ht; have HPT := Lib.hid (show y ∈ ptsOf (updT (updT (updT (fun _ => []) x (List.replicate 1 0)) y (List.replicate 1 0)) x ((updT (updT (fun _ => []) x (List.replicate 1 0)) y (List.replicate 1 0) x).set 0 y)) x by have := HY0.out.1; simp [ptsOf, updT, HXY.out]; omega); have HC8 := Lib.hid (KScanned hs 0 rfl x HXL.out); clear hs ht HC7)
    | (go_at_call 28; refine (HC8.out).mono ?_; rw [show Col.sc _ x = true by rw [shades_sc]; simp [Col.scan]]; rintro e w9 ⟨rfl, hs⟩; have HC9 := Lib.hid (KMarked hs 0 rfl y HYL.out); clear hs HC8)
    | (go_at_call 27; refine (HC9.out).mono ?_; rw [show Col.mz _ y = true by rw [shades_mz, decide_eq_true HPT.out, Bool.or_true]]; rintro e w10 ⟨rfl, hs⟩; have HC10 := Lib.hid (KScanned hs 0 rfl y HYL.out); clear hs HC9)
    | (go_at_call 28; refine (HC10.out).mono ?_; rw [show Col.sc _ y = false by rw [shades_sc]; simp [Col.scan, Col.shade, Col.white, HXY.out.symm]]; rintro e w11 ⟨rfl, hs⟩; have HC11 := Lib.hid (KDrained hs 0 rfl); clear hs HC10)
    | (go_at_call 41; refine (HC11.out).mono ?_; rintro e w12 ⟨b, rfl, hb, hs⟩; obtain rfl : b = false := (by cases b with | false => rfl | true => exact absurd (hb.1 rfl y) (by rw [grey_iff.2 ⟨by rw [shades_mz, decide_eq_true HPT.out, Bool.or_true], by rw [shades_sc]; simp [Col.scan, Col.shade, Col.white, HXY.out.symm]⟩]; decide)); have HS := Lib.hid hs; clear hs hb HC11))
  go_ret
  exact ⟨rfl, HS.out.chg⟩
end Go.Proofs.Ytacebfocfpbkdaa

/-
  A region that draws its order, in a round of a loop over a function: reads in any order, and then the rest, one behind the other. Conditions: no program is named here.
-/
namespace Go.Proofs.Ytacebfocfpbkdaa
set_option linter.unusedVariables false
set_option linter.unusedSimpArgs false
open Go.RowKit Go.Shelf

section
variable {P : Program} {ops : Array Oper} {Q : Exit → Act → World → Prop} {md : Region.Mode} {l₀ : Nat}

theorem rowsIn_of {row : String} {args : Array Value} {w : World} {R : Value → World → Prop} (h : Rows P row args w R) : RowsIn (Fence.wide.inRound l₀) 0 P row args w R :=
  fun c cs _ => let ⟨v, w', r, s⟩ := h c cs; ⟨v, w', r, stepsIn_wide.2 s⟩
theorem wpIn_of_wp {o : Oper} {a : Act} {w : World} {K : Act → World → Prop} (hnd : ∀ c, o.op ≠ .defer c) (h : o.wp P a w K Q) : o.wpIn (Fence.wide.inRound l₀) 0 P a w K Q := by
  unfold Oper.wp at h
  unfold Oper.wpIn
  refine ⟨fun f _ => trivial, ?_⟩
  rw [Oper.semAt_eq _ _ _ hnd]
  generalize (execOp a.eval o).run P w = r at *
  cases r with
  | ok x w' =>
    have hd : Fence.wide.depth.isSome = true → 1 ≤ 0 := fun hd => (by have h0 : (Option.isSome (none : Option Nat)) = true := hd; cases h0)
    cases x <;> first
      | exact h
      | exact ⟨hd, calls_round h⟩
      | exact ⟨hd, rowsIn_of h⟩
      | exact h.elim
  | halt x w' => cases x <;> exact h
theorem wpAnyIn_of_wpAny (hnd : ∀ (i : Nat) (o : Oper), ops[i]? = some o → ∀ c, o.op ≠ .defer c) (hout : ∀ a w, ¬ Q .outgrown a w) :
    ∀ (fuel : Nat) (listed : Array Bool) (a : Act) (w : World), wpAny P md ops Q fuel listed a w → wpAnyIn (Fence.wide.inRound l₀) 0 P md ops Q fuel listed a w
  | 0, _, _, _, h => h
  | fuel + 1, listed, a, w, h => by
    refine ⟨h.1, fun i hi => ?_⟩
    have h2 := h.2 i hi
    unfold wpOp at h2
    unfold wpOpIn
    cases ho : ops[i]? with
    | none =>
      simp only [ho] at h2 ⊢
      exact wpAnyIn_of_wpAny hnd hout fuel _ _ _ h2
    | some o =>
      simp only [ho] at h2 ⊢
      split
      · rename_i hw
      
        rw [if_pos hw] at h2
        rcases h2 with h3 | ⟨_, a', w', h3⟩
        · exact wpIn_of_wp (hnd i o ho) (Oper.wp_mono (fun a w => wpAnyIn_of_wpAny hnd hout fuel _ a w) h3)
        · exact absurd h3 (hout a' w')
      · rename_i hw
        rw [if_neg hw] at h2
        exact ⟨fun f _ => trivial, wpAnyIn_of_wpAny hnd hout fuel _ _ _ h2⟩

theorem wpIn_region_still_tail {id : Nat} {a : Act} {w : World} {l : List Oper} (n : Nat) (hm : P.follows .mixedOrders = true) (hB : Region.lexTailB .any l.toArray n = true)
    (hnd : (l.all fun o => match o.op with | .defer _ => false | _ => true) = true) (hout : ∀ a w, ¬ Q .outgrown a w)
    (h : wpStill P l.toArray { w with drawn := w.drawn + 1 } (fun a' => wpList P l.toArray Q (l.drop n) a' { w with drawn := w.drawn + 1 }) (l.take n) a) : (Code.region id l.toArray true).wpIn (Fence.wide.inRound l₀) 0 P Q a w := by
  simp only [Region.lexTailB, Bool.and_eq_true, decide_eq_true_eq] at hB
  obtain ⟨⟨⟨⟨hsel, hn⟩, hs⟩, hc⟩, hlex⟩ := hB
  have hn' : n < l.length := by simpa using hn
  have htl : (l.take n).length = n := by simp; omega
  have hdl : (l.drop n).length = l.toArray.size - n := by simp
  have inv0 : HeadInv .any l.toArray n (Array.replicate l.toArray.size false) :=
    ⟨by simp, fun j oj _ hl => (by rw [getD_replicate_false] at hl; cases hl), fun t _ ht => getD_in (by simpa using ht) (getD_replicate_false _ _)⟩
  have H := wpAnyL_lex (md := .any) (g := l.toArray.size - n) hsel hs hc hn (l.take n) 0 _ a (fun j hj => by
    have hj' : j < n := by rw [htl] at hj; exact hj
    simp [hj']) (by simpa using htl) inv0 (by rw [htl]; exact hlex) h
  refine wpIn_region_any hm (wpAnyIn_of_wpAny ?_ hout _ _ _ _ ?_)
  · intro i o ho c he
    have hmem : o ∈ l := by
      rw [List.getElem?_toArray] at ho
      exact List.mem_of_getElem? ho
    have := List.all_eq_true.1 hnd o hmem
    rw [he] at this
    cases this
  · have := wpAny_of_head (Q' := Q) (g := l.toArray.size - n) (fun listed a' hL => by
      have := wpAny_of_seq (md := .any) (Q' := Q) (l.drop n) n listed a' { w with drawn := w.drawn + 1 } (fun j => by simp [List.getElem?_drop]) (by rw [hdl]; exact hL.1) hL.2
      rwa [hdl] at this) _ _ _ H
    rw [htl, show n + (l.toArray.size - n) = l.toArray.size by omega] at this
    exact this
end
end Go.Proofs.Ytacebfocfpbkdaa
