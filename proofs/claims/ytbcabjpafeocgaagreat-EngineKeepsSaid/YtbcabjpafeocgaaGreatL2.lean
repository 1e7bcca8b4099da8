/-
  Parts of the proof, joined: SetIter, GreyS, TraceP, Mark, Mark2, Ones, OnesP, Bits, OnesW, SCount, SReset, Mark3, Range2, SetIter2, SizeCore, Arena, ArenaGets, Gap. Conditions: as each part says.
-/
import Derived.Test.YtbcabjpafeocgaaGreatL1
import Derived.Outline
import Derived.Test.YtbcabjpafeocgaaGreatRows
import Derived.BigQuiet
import Derived.WalkMore
import Derived.Deep.QuietTactic

/-
  A set of numbers: its methods and its iterator, where memory is a list of things. Conditions: at most 100000 numbers.
-/
namespace Go.Proofs.YtbcabjpafeocgaaGreat
set_option linter.unusedVariables false
set_option linter.unusedSimpArgs false
open Go.RowKit Go.Shelf
attribute [local go_sem] Oper.semAt_some wide_fn round_fn wide_depth round_depth
attribute [local simp] wide_fn round_fn wide_depth round_depth

/-- The numbers of a set, rising. -/
def elems (n : Nat) (S : Nat → Bool) : List Nat := (List.range n).filter S
theorem elems_succ (n : Nat) (S : Nat → Bool) : elems (n + 1) S = elems n S ++ (if S n then [n] else []) := by
  unfold elems
  rw [List.range_succ, List.filter_append]
  cases h : S n <;> simp [h]
theorem elems_prefix (S : Nat → Bool) {k n : Nat} (h : k ≤ n) : elems k S <+: elems n S := by
  induction n with
  | zero => obtain rfl : k = 0 := by omega
            exact List.prefix_refl _
  | succ n ih =>
    by_cases e : k = n + 1
    · subst e; exact List.prefix_refl _
    · exact (ih (by omega)).trans (by rw [elems_succ]; exact List.prefix_append _ _)
theorem mem_elems {n : Nat} {S : Nat → Bool} {i : Nat} : i ∈ elems n S ↔ i < n ∧ S i = true := by simp [elems]

section
variable {w0 w : World} {L : List Res} {b : Nat} {n : Int} {S : Nat → Bool}

theorem set_n (h : Sep w0 w L) (i : Nat) (hi : L[i]? = some (setR b n S)) : w.cell? ⟨b, 0, none⟩ = some (.int .i64 n) := by
  obtain ⟨F, ⟨lo, rfl, W, _, _, hs⟩, _⟩ := h.at_ hi
  cases lo with
  | none => have := hs.1.cell 0; simpa [setCells] using this
  | some g => have := hs.1.cell 0; simpa [setCells] using this
theorem TSHas (h : Sep w0 w L) (i : Nat) (hi : L[i]? = some (setR b n S)) (hn1 : n ≤ 100000) (I : Nat) (hI : (I : Int) < n) :
    Calls Tryz.prog 58 #[.pointer (some ⟨b, 0, none⟩), .int .i64 (I : Int)] w fun e w' => e = .returned (.bool (S I)) ∧ Sep w0 w' L := by
  refine h.look i hi ?_
  rintro F ⟨lo, rfl, hs⟩
  refine (SHasIn hs hn1 I hI).mono ?_
  rintro e w' ⟨lo', rfl, hs', hg, hc⟩
  exact ⟨_, rfl, ⟨lo', rfl, hs'⟩, hg, hc⟩
theorem TSAll (h : Sep w0 w L) (b : Nat) : Calls Tryz.prog 65 #[.pointer (some ⟨b, 0, none⟩)] w fun e w' => e = .returned (.func (.func 92) #[] #[.pointer (some ⟨w.heap.size, 0, none⟩)]) ∧ Sep w0 w' (blkR w.heap.size 86 #[.pointer (some ⟨b, 0, none⟩)] :: L) := by
  have hmf : ∀ (fn : Fn) (first cap : Array Value) (w : World), (Instr.makeFunc fn first cap).run Tryz.prog w = .ok (.func fn first cap) w := fun _ _ _ _ => rfl
  have H := Lib.hid h
  clear h
  go_enter Tryz.func65, Tryz.ntmps65
  go_wp2_with fail
  go_ret
  exact ⟨rfl, H.out.alloc _⟩
end

set_option maxHeartbeats 2000000 in
theorem set_iter (B b : Nat) (n : Nat) (S : Nat → Bool) (hn : n ≤ 100000) :
    Iter Tryz.prog 92 #[.pointer (some ⟨B, 0, none⟩)] (fun i : Nat => #[.int .i64 (i : Int)]) (elems n S) (fun _ => [blkR B 86 #[.pointer (some ⟨b, 0, none⟩)], setR b n S]) := by
  intro l w0 Φ Φx W R hY h0 hS
  dsimp only [List.cons_append, List.nil_append] at hY hS
  have HY := Lib.hid hY
  have HS := Lib.hid hS
  have H0 := Lib.hid h0
  have hb := (hS.blk 0 rfl).cell 0
  have hn0 := set_n hS 1 rfl
  simp at hb
  clear hY h0 hS
  refine calls_wide ?_
  gi_enter Tryz.func92, Tryz.ntmps92
  gi_wp2
  clear hn0 hb
  gi_loopw [8] (fun i wr => ∃ (k : Nat) (R' : List Res), k ≤ n ∧ i = .int .i64 k ∧ Φ (elems k S) R' ∧ Sep w0 wr (blkR B 86 #[.pointer (some ⟨b, 0, none⟩)] :: setR b n S :: R')) (fun i _ => n + 1 - (intOf i).toNat)
  case atStart => exact ⟨0, R, by omega, rfl, H0.out, HS.out⟩
  case round =>
    obtain ⟨k, R', hk, rfl, hΦ, hS⟩ := hrel
    clear H0 HS
    by_cases hlt : k < n
    · have hb := (hS.blk 0 rfl).cell 0
      simp at hb
      have HS := Lib.hid hS
      have HP := Lib.hid hΦ
      have HLT := Lib.hid hlt
      have hIn : (k : Int) < (n : Int) := by omega
      have hn1 : (n : Int) ≤ 100000 := by omega
      clear hS hΦ
      obtain ⟨B', hB⟩ : ∃ B', S k = B' := ⟨_, rfl⟩
      have HB := Lib.hid hB
      clear hB
      cases B'
      · gi_wp2_with (gi_at_call 58; refine (calls_in (TSHas HS.out 1 rfl hn1 k hIn)).mono ?_; rw [HB.out]; rintro e w1 ⟨rfl, hs⟩; have HS1 := Lib.hid hs; clear hs)
        go_roundw
        case rel => exact ⟨k + 1, R', HLT.out, by go_num, by rw [elems_succ, HB.out]; simpa using HP.out, HS1.out⟩
        case measure => have := HLT.out; simp [intOf]; omega
      · gi_wp2_with (gi_at_call 58; refine (calls_in (TSHas HS.out 1 rfl hn1 k hIn)).mono ?_; rw [HB.out]; rintro e w1 ⟨rfl, hs⟩; have HS1 := Lib.hid hs; clear hs; obtain ⟨fn, tmps, assign, body, hy, hR⟩ := HY.out (elems k S) k R' [] w1 (by rw [show elems k S ++ [k] = elems (k + 1) S by rw [elems_succ, HB.out]; rfl]; exact elems_prefix S HLT.out) HP.out (by simpa using HS1.out); have HR := Lib.hid hR; clear hR)
        refine HR.out.mono ?_
        simp only [List.append_nil]
        rintro e w2 (⟨rfl, R2, hΦ2, hS2⟩ | ⟨rfl, R2, hΦ2, hS2⟩)
        · have HS2 := Lib.hid hS2
          have HP2 := Lib.hid hΦ2
          clear hS2 hΦ2
          gi_wp2
          go_roundw
          case rel => exact ⟨k + 1, R2, HLT.out, by go_num, by rw [elems_succ, HB.out]; exact HP2.out, HS2.out⟩
          case measure => have := HLT.out; simp [intOf]; omega
        · have HS2 := Lib.hid hS2
          have HP2 := Lib.hid hΦ2
          clear hS2 hΦ2
          gi_wp2
          refine bodyPost_ret (results_none rfl _ _ _) rfl ?_
          exact ⟨⟨_, rfl⟩, .inr ⟨elems k S ++ [k], R2, by rw [show elems k S ++ [k] = elems (k + 1) S by rw [elems_succ, HB.out]; rfl]; exact elems_prefix S HLT.out, HP2.out, HS2.out⟩⟩
    · obtain rfl : k = n := by omega
      have HS := Lib.hid hS
      have HP := Lib.hid hΦ
      clear hS hΦ
      gi_wp2
      go_end0
      exact ⟨⟨_, rfl⟩, .inl ⟨R', HP.out, HS.out⟩⟩
end Go.Proofs.YtbcabjpafeocgaaGreat

/-
  Sets of numbers, and the grey stack, where memory is a list of things: a contract for each method. Conditions: as each contract says.
-/
namespace Go.Proofs.YtbcabjpafeocgaaGreat
set_option linter.unusedVariables false
set_option linter.unusedSimpArgs false
open Go.RowKit Go.Shelf

/-- The grey stack at block b. -/
def greyR (b : Nat) (l : List Int) (room : Int) (over : Bool) : Res := ⟨fun w F => GreyAt w F b l room over, fun h hc hF => h.keep hc hF, fun h => h.lt⟩

section
variable {w0 w : World} {L : List Res} {i b : Nat} {l : List Int} {room : Int} {over : Bool}
theorem TGOver (S : Sep w0 w L) (i : Nat) (hi : L[i]? = some (greyR b l room over)) : Calls Tryz.prog 88 #[.pointer (some ⟨b, 0, none⟩)] w fun e w' => e = .returned (.bool over) ∧ w = w' :=
  S.read i hi (fun F h => Over h)
theorem TGNew (S : Sep w0 w L) (room : Int) : Calls Tryz.prog 48 #[.int .i64 room] w fun e w' => ∃ b, e = .returned (.pointer (some ⟨b, 0, none⟩)) ∧ Sep w0 w' (greyR b [] (max room 0) false :: L) := by
  refine (New w room).mono ?_
  rintro e w' ⟨b, rfl, hb, hg, hc⟩
  exact ⟨b, rfl, S.new (r := greyR b [] (max room 0) false) (F := [b]) hg (by intro x hx; simp at hx; omega) hc⟩
theorem TGSettle (S : Sep w0 w L) (i : Nat) (hi : L[i]? = some (greyR b l room over)) : Calls Tryz.prog 103 #[.pointer (some ⟨b, 0, none⟩)] w fun e w' => e = .returned (.tuple #[]) ∧ Sep w0 w' (L.set i (greyR b l room false)) :=
  S.call i hi _ (fun F h => (Settle h).mono fun e w' ⟨h1, h2, h3⟩ => ⟨F, h1, h2, GrewF.self _ _, h3⟩)
theorem TGReset (S : Sep w0 w L) (i : Nat) (hi : L[i]? = some (greyR b l room over)) : Calls Tryz.prog 67 #[.pointer (some ⟨b, 0, none⟩)] w fun e w' => e = .returned (.tuple #[]) ∧ Sep w0 w' (L.set i (greyR b [] room false)) :=
  S.call i hi _ (fun F h => (Reset h).mono fun e w' ⟨h1, h2, h3⟩ => ⟨[b], h1, h2, fun x hx => .inl (by simp at hx; subst hx; exact h.mem), h3⟩)
theorem TGPopNo (S : Sep w0 w L) (i : Nat) (hi : L[i]? = some (greyR b [] room over)) : Calls Tryz.prog 86 #[.pointer (some ⟨b, 0, none⟩)] w fun e w' => e = .returned (.tuple #[.int .i64 0, .bool false]) ∧ w = w' :=
  S.read i hi (fun F h => PopNo h)
theorem TGPopYes {r : Int} (S : Sep w0 w L) (i : Nat) (hi : L[i]? = some (greyR b (l ++ [r]) room over)) : Calls Tryz.prog 86 #[.pointer (some ⟨b, 0, none⟩)] w fun e w' => e = .returned (.tuple #[.int .i64 r, .bool true]) ∧ Sep w0 w' (L.set i (greyR b l room over)) :=
  S.call i hi _ (fun F h => (PopYes h).mono fun e w' ⟨h1, h2, h3⟩ => ⟨F, h1, h2, GrewF.self _ _, h3⟩)
theorem TGPushNo (S : Sep w0 w L) (i : Nat) (hi : L[i]? = some (greyR b l room over)) (r : Int) (hf : room ≤ l.length) : Calls Tryz.prog 50 #[.pointer (some ⟨b, 0, none⟩), .int .i64 r] w fun e w' => e = .returned (.bool false) ∧ Sep w0 w' (L.set i (greyR b l room true)) :=
  S.call i hi _ (fun F h => (PushNo h r hf).mono fun e w' ⟨h1, h2, h3⟩ => ⟨F, h1, h2, GrewF.self _ _, h3⟩)
theorem TGPushYes (S : Sep w0 w L) (i : Nat) (hi : L[i]? = some (greyR b l room over)) (r : Int) (hf : l.length < room) (hl : l.length ≤ 1000000) : Calls Tryz.prog 50 #[.pointer (some ⟨b, 0, none⟩), .int .i64 r] w fun e w' => e = .returned (.bool true) ∧ Sep w0 w' (L.set i (greyR b (l ++ [r]) room over)) :=
  S.call i hi _ (fun F h => (PushYes h r hf hl).mono fun e w' ⟨F', h1, h2, h3, h4⟩ => ⟨F', h1, h2, h4, h3⟩)
/-- Either way: what the stack is behind a push. -/
theorem TGPush (S : Sep w0 w L) (i : Nat) (hi : L[i]? = some (greyR b l room over)) (r : Int) (hl : l.length ≤ 1000000) : Calls Tryz.prog 50 #[.pointer (some ⟨b, 0, none⟩), .int .i64 r] w fun e w' => ∃ v, e = .returned (.bool v) ∧ Sep w0 w' (L.set i (greyR b (if l.length < room then l ++ [r] else l) room (if l.length < room then over else true))) := by
  by_cases h : (l.length : Int) < room
  · refine (TGPushYes S i hi r h hl).mono ?_
    rintro e w' ⟨rfl, hs⟩
    exact ⟨_, rfl, by rw [if_pos h, if_pos h]; exact hs⟩
  · refine (TGPushNo S i hi r (by omega)).mono ?_
    rintro e w' ⟨rfl, hs⟩
    exact ⟨_, rfl, by rw [if_neg h, if_neg h]; exact hs⟩
end

section
variable {w0 w : World} {L : List Res} {i b : Nat} {n : Int} {S : Nat → Bool}
theorem TSNew (h : Sep w0 w L) (n : Int) (hn : 0 ≤ n) : Calls Tryz.prog 46 #[.int .i64 n] w fun e w' => e = .returned (.pointer (some ⟨w.heap.size, 0, none⟩)) ∧ Sep w0 w' (setR w.heap.size n (fun _ => false) :: L) := by
  refine (SNew n hn w).mono ?_
  rintro e w' ⟨rfl, hs, hc⟩
  exact ⟨rfl, h.new (r := setR w.heap.size n (fun _ => false)) (F := [w.heap.size]) ⟨none, rfl, hs⟩ (by simp) hc⟩
theorem TSPut (h : Sep w0 w L) (i : Nat) (hi : L[i]? = some (setR b n S)) (hn1 : n ≤ 100000) (I : Nat) (hI : (I : Int) < n) :
    Calls Tryz.prog 49 #[.pointer (some ⟨b, 0, none⟩), .int .i64 (I : Int)] w fun e w' => e = .returned (.bool (!S I)) ∧ Sep w0 w' (L.set i (setR b n (fun j => S j || decide (j = I)))) := by
  refine h.call i hi _ ?_
  rintro F ⟨lo, rfl, hs⟩
  refine (SPutIn hs hn1 I hI).mono ?_
  rintro e w' ⟨lo', rfl, hs', hg, hc⟩
  exact ⟨_, rfl, ⟨lo', rfl, hs'⟩, hg, hc⟩
theorem TSDrop (h : Sep w0 w L) (i : Nat) (hi : L[i]? = some (setR b n S)) (hn1 : n ≤ 100000) (I : Nat) (hI : (I : Int) < n) :
    Calls Tryz.prog 77 #[.pointer (some ⟨b, 0, none⟩), .int .i64 (I : Int)] w fun e w' => e = .returned (.bool (S I)) ∧ Sep w0 w' (L.set i (setR b n (fun j => S j && !decide (j = I)))) := by
  refine h.call i hi _ ?_
  rintro F ⟨lo, rfl, hs⟩
  refine (SDropIn hs hn1 I hI).mono ?_
  rintro e w' ⟨lo', rfl, hs', hg, hc⟩
  exact ⟨_, rfl, ⟨lo', rfl, hs'⟩, hg, hc⟩
end
end Go.Proofs.YtbcabjpafeocgaaGreat

/-
  Colours, and what tracing makes of them, as plain data (layer 11). Conditions: as each theorem says; no walk.
-/
namespace Go.Proofs.YtbcabjpafeocgaaGreat
set_option linter.unusedVariables false
set_option linter.unusedSimpArgs false

/-- Which are marked, which are scanned. -/
structure Col where
  mz : Nat → Bool
  sc : Nat → Bool
def Col.none : Col := ⟨fun _ => false, fun _ => false⟩
def Col.grey (C : Col) (r : Nat) : Bool := C.mz r && !C.sc r
def Col.shade (C : Col) (r : Nat) : Col := ⟨fun x => C.mz x || decide (x = r), C.sc⟩
def Col.scan (C : Col) (r : Nat) : Col := ⟨C.mz, fun x => C.sc x || decide (x = r)⟩
def Col.black (C : Col) (r : Nat) : Col := ⟨fun x => C.mz x || decide (x = r), fun x => C.sc x || decide (x = r)⟩
def Col.regrey (C : Col) (r : Nat) : Col := if C.mz r then ⟨C.mz, fun x => C.sc x && !decide (x = r)⟩ else C
def Col.forget (C : Col) (r : Nat) : Col := ⟨fun x => C.mz x && !decide (x = r), fun x => C.sc x && !decide (x = r)⟩
def Col.shades (C : Col) (l : List Nat) : Col := l.foldl Col.shade C

theorem Col.ext {C C' : Col} (h1 : ∀ x, C.mz x = C'.mz x) (h2 : ∀ x, C.sc x = C'.sc x) : C = C' := by
  cases C; cases C'
  simp only [Col.mk.injEq]
  exact ⟨funext h1, funext h2⟩
theorem shades_mz (l : List Nat) : ∀ (C : Col) (x : Nat), (C.shades l).mz x = (C.mz x || decide (x ∈ l)) := by
  induction l with
  | nil => intro C x; simp [Col.shades]
  | cons a l ih =>
    intro C x
    show ((C.shade a).shades l).mz x = _
    rw [ih]
    simp only [Col.shade, List.mem_cons]
    by_cases h1 : x = a <;> by_cases h2 : x ∈ l <;> simp [h1, h2]
theorem shades_sc (l : List Nat) : ∀ (C : Col), (C.shades l).sc = C.sc := by
  induction l with
  | nil => intro C; rfl
  | cons a l ih => intro C; show ((C.shade a).shades l).sc = _; rw [ih]; rfl
theorem shade_same {C : Col} {r : Nat} (h : C.mz r = true) : C.shade r = C := by
  refine Col.ext (fun x => ?_) (fun _ => rfl)
  show (C.mz x || decide (x = r)) = C.mz x
  by_cases e : x = r
  · subst e; simp [h]
  · simp [e]

/-- d grey ones were scanned, one behind the other. -/
inductive Steps (pts : Nat → List Nat) : Nat → Col → Col → Prop
  | zero (C : Col) : Steps pts 0 C C
  | succ {d : Nat} {C C1 : Col} (r : Nat) (h : Steps pts d C C1) (hg : C1.grey r = true) : Steps pts (d + 1) C ((C1.scan r).shades (pts r))

/-- What R leads to. -/
inductive Leads (pts : Nat → List Nat) (R : Nat → Prop) : Nat → Prop
  | base {x : Nat} (h : R x) : Leads pts R x
  | step {x y : Nat} (h : Leads pts R x) (hy : y ∈ pts x) : Leads pts R y

section
variable {pts : Nat → List Nat} {d e : Nat} {C C1 C' : Col}
theorem grey_iff {r : Nat} : C.grey r = true ↔ C.mz r = true ∧ C.sc r = false := by simp [Col.grey]
theorem Steps.trans (h : Steps pts d C C1) (k : Steps pts e C1 C') : Steps pts (d + e) C C' := by
  induction k with
  | zero => exact h
  | succ r _ hg ih => exact Steps.succ r (ih h) hg
theorem Steps.mono (h : Steps pts d C C') : (∀ x, C.mz x = true → C'.mz x = true) ∧ (∀ x, C.sc x = true → C'.sc x = true) := by
  induction h with
  | zero => exact ⟨fun _ h => h, fun _ h => h⟩
  | @succ d C C1 r hs hg ih =>
    refine ⟨fun x hx => ?_, fun x hx => ?_⟩
    · rw [shades_mz]
      show (C1.mz x || _) = true
      rw [ih.1 x hx]
      rfl
    · rw [shades_sc]
      show (C1.sc x || _) = true
      rw [ih.2 x hx]
      rfl
/-- All that is marked stays within what is closed. -/
theorem Steps.within {P : Nat → Prop} (h : Steps pts d C C') (hc : ∀ x, P x → ∀ y ∈ pts x, P y) (h0 : ∀ x, C.mz x = true → P x) : ∀ x, C'.mz x = true → P x := by
  induction h with
  | zero => exact h0
  | succ r _ hg ih =>
    intro x hx
    rw [shades_mz] at hx
    simp only [Bool.or_eq_true, decide_eq_true_eq] at hx
    rcases hx with hx | hx
    · exact ih h0 x hx
    · exact hc r (ih h0 r (grey_iff.1 hg).1) x hx
/-- What was scanned points to what is marked. -/
theorem Steps.scanned (h : Steps pts d C C') : ∀ x, C'.sc x = true → C.sc x = true ∨ ∀ y ∈ pts x, C'.mz y = true := by
  induction h with
  | zero => exact fun _ h => .inl h
  | @succ d C C1 r hs hg ih =>
    intro x hx
    rw [shades_sc] at hx
    have hx' : (C1.sc x || decide (x = r)) = true := hx
    simp only [Bool.or_eq_true, decide_eq_true_eq] at hx'
    rcases hx' with hx' | rfl
    · rcases ih x hx' with h1 | h1
      · exact .inl h1
      · right
        intro y hy
        rw [shades_mz]
        show (C1.mz y || _) = true
        rw [h1 y hy]
        rfl
    · right
      intro y hy
      rw [shades_mz]
      simp [hy]
theorem Steps.sub (h : Steps pts d C C') (h0 : ∀ x, C.sc x = true → C.mz x = true) : ∀ x, C'.sc x = true → C'.mz x = true := by
  induction h with
  | zero => exact h0
  | @succ d C C1 r hs hg ih =>
    intro x hx
    rw [shades_sc] at hx
    have hx' : (C1.sc x || decide (x = r)) = true := hx
    simp only [Bool.or_eq_true, decide_eq_true_eq] at hx'
    rw [shades_mz]
    show (C1.mz x || _) = true
    rcases hx' with hx' | rfl
    · rw [ih h0 x hx']; rfl
    · rw [(grey_iff.1 hg).1]; rfl
/-- Each step scans one more. -/
theorem Steps.count (h : Steps pts d C C') {l : List Nat} (hn : l.Nodup) (hc : ∀ x ∈ l, ∀ y ∈ pts x, y ∈ l) (h0 : ∀ x, C.mz x = true → x ∈ l) : l.countP C'.sc = l.countP C.sc + d := by
  induction h with
  | zero => rfl
  | @succ d C C1 r hs hg ih =>
    have hr : r ∈ l := hs.within (P := fun x => x ∈ l) hc h0 r (grey_iff.1 hg).1
    rw [shades_sc, ← Nat.add_assoc, ← ih h0]
    have hf := (grey_iff.1 hg).2
    clear ih h0 hc hs hg
    induction l with
    | nil => cases hr
    | cons a l ihl =>
      rw [List.nodup_cons] at hn
      rw [List.countP_cons, List.countP_cons]
      by_cases e : a = r
      · subst e
        have h1 : l.countP (C1.scan a).sc = l.countP C1.sc := List.countP_congr (fun x hx => by
          show (C1.sc x || decide (x = a)) = true ↔ _
          have : x ≠ a := fun e => hn.1 (e ▸ hx)
          simp [this])
        rw [h1, hf]
        simp [Col.scan]
      · have hr' : r ∈ l := by
          rcases List.mem_cons.1 hr with h | h
          · exact absurd h.symm e
          · exact h
        rw [ihl hn.2 hr']
        have : (C1.scan r).sc a = C1.sc a := by
          show (C1.sc a || decide (a = r)) = _
          simp [e]
        rw [this]
        omega
theorem leads_closed {R : Nat → Prop} {P : Nat → Prop} (h0 : ∀ x, R x → P x) (hc : ∀ x, P x → ∀ y ∈ pts x, P y) : ∀ x, Leads pts R x → P x := by
  intro x h
  induction h with
  | base h => exact h0 _ h
  | step _ hy ih => exact hc _ ih _ hy
/-- Traced to the end: what is marked is what leads from what was marked. -/
theorem Steps.done (h : Steps pts d C C') (hno : ∀ x, C'.grey x = false) (hcl : ∀ x, C.sc x = true → ∀ y ∈ pts x, C.mz y = true) (x : Nat) : C'.mz x = true ↔ Leads pts (fun x => C.mz x = true) x := by
  constructor
  · exact h.within (P := Leads pts _) (fun x hx y hy => .step hx hy) (fun x hx => .base hx) x
  · refine leads_closed (fun x hx => h.mono.1 x hx) (fun x hx y hy => ?_) x
    have hs : C'.sc x = true := by
      cases e : C'.sc x with
      | true => rfl
      | false =>
        have := hno x
        rw [show C'.grey x = (C'.mz x && !C'.sc x) from rfl, hx, e] at this
        cases this
    rcases h.scanned x hs with h1 | h1
    · exact h.mono.1 y (hcl x h1 y hy)
    · exact h1 y hy
theorem Steps.end_ (hno : ∀ x, C'.grey x = false) (hs : ∀ x, C'.sc x = true → C'.mz x = true) (x : Nat) : C'.sc x = C'.mz x := by
  cases e : C'.mz x with
  | true =>
    cases e2 : C'.sc x with
    | true => rfl
    | false =>
      have := hno x
      rw [show C'.grey x = (C'.mz x && !C'.sc x) from rfl, e, e2] at this
      cases this
  | false =>
    cases e2 : C'.sc x with
    | false => rfl
    | true => rw [hs x e2] at e; cases e
/-- So many steps as there are objects end it. -/
theorem Steps.enough (h : Steps pts d C C') {l : List Nat} (hn : l.Nodup) (hc : ∀ x ∈ l, ∀ y ∈ pts x, y ∈ l) (h0 : ∀ x, C.mz x = true → x ∈ l) (hd : l.length ≤ d) : ∀ x, C'.grey x = false := by
  have h1 := h.count hn hc h0
  have h2 := List.countP_le_length (p := C'.sc) (l := l)
  have h3 : l.countP C'.sc = l.length := by omega
  rw [List.countP_eq_length] at h3
  intro x
  cases e : C'.grey x with
  | false => rfl
  | true =>
    obtain ⟨e1, e2⟩ := grey_iff.1 e
    have := h3 x (h.within (P := fun x => x ∈ l) hc h0 x e1)
    rw [this] at e2
    cases e2
end

/-- The grey stack: with the sign that it ran over or without, no grey one is forgotten. -/
structure Grey (C : Col) (gs : List Nat) (room : Nat) (over : Bool) : Prop where
  some_ : over = false → ∀ r, C.grey r = true → r ∈ gs
  fits : gs.length ≤ room

section
variable {C : Col} {gs : List Nat} {room : Nat} {over : Bool}
theorem Grey.push {r : Nat} {C' : Col} (h : Grey C gs room over) (hg : ∀ x, C'.grey x = true → C.grey x = true ∨ x = r) (hr : gs.length < room) : Grey C' (gs ++ [r]) room over :=
  ⟨fun ho x hx => by
    rcases hg x hx with h1 | rfl
    · exact List.mem_append.2 (.inl (h.some_ ho x h1))
    · simp
   , by simp; omega⟩
theorem Grey.full {C' : Col} (h : Grey C gs room over) : Grey C' gs room true := ⟨fun ho => (by cases ho), h.fits⟩
theorem Grey.less {C' : Col} (h : Grey C gs room over) (hg : ∀ x, C'.grey x = true → C.grey x = true) : Grey C' gs room over := ⟨fun ho x hx => h.some_ ho x (hg x hx), h.fits⟩
theorem Grey.pop {r : Nat} (h : Grey C (gs ++ [r]) room over) (hr : C.grey r = false) : Grey C gs room over := by
  refine ⟨fun ho x hx => ?_, by have := h.fits; simp at this; omega⟩
  rcases List.mem_append.1 (h.some_ ho x hx) with h1 | h1
  · exact h1
  · simp at h1
    subst h1
    rw [hr] at hx
    cases hx
theorem Grey.popScan {r : Nat} (h : Grey C (gs ++ [r]) room over) : Grey (C.scan r) gs room over :=
  ⟨fun ho x hx => by
    have hx2 : C.mz x = true ∧ (C.sc x || decide (x = r)) = false := grey_iff.1 hx
    simp only [Bool.or_eq_false_iff, decide_eq_false_iff_not] at hx2
    rcases List.mem_append.1 (h.some_ ho x (grey_iff.2 ⟨hx2.1, hx2.2.1⟩)) with h1 | h1
    · exact h1
    · simp at h1; exact absurd h1 hx2.2.2
   , by have := h.fits; simp at this; omega⟩
theorem Grey.empty (h : Grey C [] room false) : ∀ x, C.grey x = false := fun x => by
  cases e : C.grey x with
  | false => rfl
  | true => have := h.some_ rfl x e; cases this
end
end Go.Proofs.YtbcabjpafeocgaaGreat

/-
  The marker (layer 11): what it holds, and a contract for each of its short methods. Conditions: as each contract says.
-/
namespace Go.Proofs.YtbcabjpafeocgaaGreat
set_option linter.unusedVariables false
set_option linter.unusedSimpArgs false
open Go.RowKit Go.Shelf

/-- The numbers as the stack holds them. -/
def ints (l : List Nat) : List Int := l.map (fun (r : Nat) => (r : Int))

/-- What a marker owns: its record, its two sets, its stack. -/
structure Own3 where
  b1 : Nat
  b2 : Nat
  b3 : Nat
  gs : List Nat
  room : Nat
  over : Bool
def markParts (m a n : Nat) (o : Own3) (C : Col) : List Res :=
  [blkR m 91 #[.pointer (some ⟨a, 0, none⟩), .pointer (some ⟨o.b1, 0, none⟩), .pointer (some ⟨o.b2, 0, none⟩), .pointer (some ⟨o.b3, 0, none⟩)], setR o.b1 (n : Int) C.mz, setR o.b2 (n : Int) C.sc, greyR o.b3 (ints o.gs) (o.room : Int) o.over]
/-- The stack knows what is grey, and holds numbers of objects alone. -/
structure MarkOk (n : Nat) (o : Own3) (C : Col) : Prop where
  grey : Grey C o.gs o.room o.over
  room : 1 ≤ o.room
  few : o.room ≤ 1000000
  refs : ∀ r ∈ o.gs, 0 < r ∧ r < n
  mz : ∀ r, C.mz r = true → 0 < r ∧ r < n
  sc : ∀ r, C.sc r = true → C.mz r = true
  size : n ≤ 100000
def markR (m a n : Nat) (C : Col) : Res := exR fun o : Own3 => pureR (MarkOk n o C) (starR (markParts m a n o C))

section
variable {w0 w : World} {L : List Res} {i m a n : Nat} {C : Col}
theorem mark_open (S : Sep w0 w L) (i : Nat) (hi : L[i]? = some (markR m a n C)) : ∃ o, MarkOk n o C ∧ Sep w0 w (markParts m a n o C ++ L.eraseIdx i) := by
  obtain ⟨o, h1⟩ := (S.lift i hi).unex 0 rfl
  obtain ⟨ho, h2⟩ := h1.unpure 0 rfl
  exact ⟨o, ho, h2.openHead⟩
theorem mark_shutHead {R : List Res} {o : Own3} (ho : MarkOk n o C) (S : Sep w0 w (markParts m a n o C ++ R)) : Sep w0 w (markR m a n C :: R) :=
  S.shutHead.set_ (i := 0) (r' := markR m a n C) rfl (fun F h => ⟨o, ho, h⟩)
theorem mark_shut {r : Res} {o : Own3} (ho : MarkOk n o C) (S : Sep w0 w (markParts m a n o C ++ L.eraseIdx i)) (hi : L[i]? = some r) : Sep w0 w (L.set i (markR m a n C)) := (mark_shutHead ho S).perm (perm_set hi)

theorem KArena (S : Sep w0 w L) (i : Nat) (hi : L[i]? = some (markR m a n C)) : Calls Tryz.prog 52 #[.pointer (some ⟨m, 0, none⟩)] w fun e w' => e = .returned (.pointer (some ⟨a, 0, none⟩)) ∧ w = w' := by
  obtain ⟨o, ho, hs⟩ := mark_open S i hi
  have c0 := (hs.blk 0 rfl).cell 0
  simp only [List.getElem?_toArray, List.getElem?_cons_zero] at c0
  clear hs ho S hi
  go_enter Tryz.func52, Tryz.ntmps52
  go_wp2_with fail
  go_ret
  exact ⟨rfl, rfl⟩
theorem KMarked (S : Sep w0 w L) (i : Nat) (hi : L[i]? = some (markR m a n C)) (r : Nat) (hr : r < n) : Calls Tryz.prog 18 #[.pointer (some ⟨m, 0, none⟩), .int .i64 (r : Int)] w fun e w' => e = .returned (.bool (C.mz r)) ∧ Sep w0 w' L := by
  obtain ⟨o, ho, hs⟩ := mark_open S i hi
  have c1 := (hs.blk 0 rfl).cell 1
  simp only [List.getElem?_toArray, List.getElem?_cons_zero, List.getElem?_cons_succ] at c1
  have HI := Lib.hid hi
  have HO := Lib.hid ho
  have HC := Lib.hid (TSHas hs 1 rfl (by have := ho.size; omega) r (by omega))
  clear hs ho S hi
  go_enter Tryz.func18, Tryz.ntmps18
  go_wp2_with (go_at_call 58; refine HC.out.mono ?_; rintro e w' ⟨rfl, hs⟩; have HS := Lib.hid hs; clear hs HC)
  go_ret
  have := mark_shut HO.out HS.out HI.out
  rw [set_self HI.out] at this
  exact ⟨rfl, this⟩
theorem KScanned (S : Sep w0 w L) (i : Nat) (hi : L[i]? = some (markR m a n C)) (r : Nat) (hr : r < n) : Calls Tryz.prog 19 #[.pointer (some ⟨m, 0, none⟩), .int .i64 (r : Int)] w fun e w' => e = .returned (.bool (C.sc r)) ∧ Sep w0 w' L := by
  obtain ⟨o, ho, hs⟩ := mark_open S i hi
  have c1 := (hs.blk 0 rfl).cell 2
  simp only [List.getElem?_toArray, List.getElem?_cons_zero, List.getElem?_cons_succ] at c1
  have HI := Lib.hid hi
  have HO := Lib.hid ho
  have HC := Lib.hid (TSHas hs 2 rfl (by have := ho.size; omega) r (by omega))
  clear hs ho S hi
  go_enter Tryz.func19, Tryz.ntmps19
  go_wp2_with (go_at_call 58; refine HC.out.mono ?_; rintro e w' ⟨rfl, hs⟩; have HS := Lib.hid hs; clear hs HC)
  go_ret
  have := mark_shut HO.out HS.out HI.out
  rw [set_self HI.out] at this
  exact ⟨rfl, this⟩
theorem KShadeNil (w : World) (m : Nat) : Calls Tryz.prog 13 #[.pointer (some ⟨m, 0, none⟩), .int .i64 0] w fun e w' => e = .returned (.bool false) ∧ w = w' := by
  go_enter Tryz.func13, Tryz.ntmps13
  go_wp2_with fail
  go_ret
  exact ⟨rfl, rfl⟩
theorem ok_shade {o : Own3} (ho : MarkOk n o C) {r : Nat} (h0 : 0 < r) (hr : r < n) :
    MarkOk n { o with gs := if o.gs.length < o.room then o.gs ++ [r] else o.gs, over := if o.gs.length < o.room then o.over else true } (C.shade r) := by
  have hg : ∀ x, (C.shade r).grey x = true → C.grey x = true ∨ x = r := by
    intro x hx
    obtain ⟨h1, h2⟩ := grey_iff.1 hx
    have h1' : (C.mz x || decide (x = r)) = true := h1
    simp only [Bool.or_eq_true, decide_eq_true_eq] at h1'
    rcases h1' with h1' | h1'
    · exact .inl (grey_iff.2 ⟨h1', h2⟩)
    · exact .inr h1'
  refine ⟨?_, ho.room, ho.few, ?_, ?_, ?_, ho.size⟩
  · by_cases h : o.gs.length < o.room
    · simp only [h, if_true]; exact ho.grey.push hg h
    · simp only [h, if_false]; exact ho.grey.full
  · intro x hx
    simp only at hx
    split at hx
    · rcases List.mem_append.1 hx with h1 | h1
      · exact ho.refs x h1
      · simp at h1; subst h1; exact ⟨h0, hr⟩
    · exact ho.refs x hx
  · intro x hx
    have hx' : (C.mz x || decide (x = r)) = true := hx
    simp only [Bool.or_eq_true, decide_eq_true_eq] at hx'
    rcases hx' with h1 | rfl
    · exact ho.mz x h1
    · exact ⟨h0, hr⟩
  · intro x hx
    show (C.mz x || _) = true
    rw [ho.sc x hx]
    rfl
theorem ints_push (l : List Nat) (r : Nat) : ints (l ++ [r]) = ints l ++ [(r : Int)] := by simp [ints]
theorem ints_length (l : List Nat) : (ints l).length = l.length := by simp [ints]
theorem KShade (S : Sep w0 w L) (i : Nat) (hi : L[i]? = some (markR m a n C)) (r : Nat) (h0 : 0 < r) (hr : r < n) : Calls Tryz.prog 13 #[.pointer (some ⟨m, 0, none⟩), .int .i64 (r : Int)] w fun e w' => e = .returned (.bool (!C.mz r)) ∧ Sep w0 w' (L.set i (markR m a n (C.shade r))) := by
  obtain ⟨o, ho, hs⟩ := mark_open S i hi
  have c1 := (hs.blk 0 rfl).cell 1
  simp only [List.getElem?_toArray, List.getElem?_cons_zero, List.getElem?_cons_succ] at c1
  have hz : ((r : Int) == 0) = false := by simp; omega
  have hz2 : ¬ (r : Int) = 0 := by omega
  have HI := Lib.hid hi
  have HO := Lib.hid ho
  have HC := Lib.hid (TSPut hs 1 rfl (by have := ho.size; omega) r (by omega))
  obtain ⟨b, hb⟩ : ∃ b, C.mz r = b := ⟨_, rfl⟩
  have HB := Lib.hid hb
  clear hs ho S hi hb
  cases b with
  | true =>
    go_enter Tryz.func13, Tryz.ntmps13
    go_wp2_with (go_at_call 49; refine HC.out.mono ?_; rw [HB.out]; rintro e w' ⟨rfl, hs⟩; have HS := Lib.hid hs; clear hs HC)
    go_ret
    have e1 := shade_same (C := C) HB.out
    have h2 : Sep w0 _ (markParts m a n o (C.shade r) ++ L.eraseIdx i) := HS.out
    rw [e1] at h2
    rw [e1, HB.out]
    exact ⟨rfl, mark_shut HO.out h2 HI.out⟩
  | false =>
    go_enter Tryz.func13, Tryz.ntmps13
    go_wp2_with (first
      | (go_at_call 49; refine HC.out.mono ?_; rw [HB.out]; rintro e w1 ⟨rfl, hs⟩; have c3 := (hs.blk 0 rfl).cell 3; simp only [List.getElem?_toArray, List.getElem?_cons_zero, List.getElem?_cons_succ] at c3; have HC2 := Lib.hid (TGPush hs 3 rfl (r : Int) (by rw [ints_length]; have h1 := HO.out.grey.fits; have h2 := HO.out.few; omega)); clear hs HC)
      | (go_at_call 50; refine HC2.out.mono ?_; rintro e w2 ⟨v, rfl, hs⟩; have HS := Lib.hid hs; clear hs HC2))
    go_ret
    refine ⟨by rw [HB.out]; rfl, mark_shut (ok_shade HO.out h0 hr) ?_ HI.out⟩
    have h2 := HS.out
    simp only [ints_length, Int.ofNat_lt] at h2
    by_cases h : o.gs.length < o.room
    · simp only [h, if_true] at h2 ⊢
      rw [← ints_push] at h2
      exact h2
    · simp only [h, if_false] at h2 ⊢
      exact h2
end
end Go.Proofs.YtbcabjpafeocgaaGreat

/-
  The marker (layer 11): it blackens, makes grey again, forgets. Conditions: as each contract says.
-/
namespace Go.Proofs.YtbcabjpafeocgaaGreat
set_option linter.unusedVariables false
set_option linter.unusedSimpArgs false
open Go.RowKit Go.Shelf

section
variable {w0 w : World} {L : List Res} {i m a n : Nat} {C : Col}
theorem ok_black {o : Own3} (ho : MarkOk n o C) {r : Nat} (h0 : 0 < r) (hr : r < n) : MarkOk n o (C.black r) := by
  refine ⟨ho.grey.less (fun x hx => ?_), ho.room, ho.few, ho.refs, fun x hx => ?_, fun x hx => ?_, ho.size⟩
  · obtain ⟨h1, h2⟩ := grey_iff.1 hx
    have h1' : (C.mz x || decide (x = r)) = true := h1
    have h2' : (C.sc x || decide (x = r)) = false := h2
    simp only [Bool.or_eq_false_iff, decide_eq_false_iff_not] at h2'
    simp only [Bool.or_eq_true, decide_eq_true_eq] at h1'
    rcases h1' with h1' | h1'
    · exact grey_iff.2 ⟨h1', h2'.1⟩
    · exact absurd h1' h2'.2
  · have hx' : (C.mz x || decide (x = r)) = true := hx
    simp only [Bool.or_eq_true, decide_eq_true_eq] at hx'
    rcases hx' with h1 | rfl
    · exact ho.mz x h1
    · exact ⟨h0, hr⟩
  · have hx' : (C.sc x || decide (x = r)) = true := hx
    simp only [Bool.or_eq_true, decide_eq_true_eq] at hx'
    show (C.mz x || decide (x = r)) = true
    rcases hx' with h1 | rfl
    · rw [ho.sc x h1]; rfl
    · simp
theorem ok_forget {o : Own3} (ho : MarkOk n o C) (r : Nat) : MarkOk n o (C.forget r) := by
  refine ⟨ho.grey.less (fun x hx => ?_), ho.room, ho.few, ho.refs, fun x hx => ?_, fun x hx => ?_, ho.size⟩
  · obtain ⟨h1, h2⟩ := grey_iff.1 hx
    have h1' : (C.mz x && !decide (x = r)) = true := h1
    have h2' : (C.sc x && !decide (x = r)) = false := h2
    simp only [Bool.and_eq_true, Bool.not_eq_true', decide_eq_false_iff_not] at h1'
    simp [h1'.2] at h2'
    exact grey_iff.2 ⟨h1'.1, h2'⟩
  · have hx' : (C.mz x && !decide (x = r)) = true := hx
    simp only [Bool.and_eq_true] at hx'
    exact ho.mz x hx'.1
  · have hx' : (C.sc x && !decide (x = r)) = true := hx
    simp only [Bool.and_eq_true] at hx'
    show (C.mz x && !decide (x = r)) = true
    rw [ho.sc x hx'.1, hx'.2]
    rfl
theorem ok_regrey {o : Own3} (ho : MarkOk n o C) {r : Nat} (h0 : 0 < r) (hr : r < n) (hm : C.mz r = true) :
    MarkOk n { o with gs := if o.gs.length < o.room then o.gs ++ [r] else o.gs, over := if o.gs.length < o.room then o.over else true } ⟨C.mz, fun x => C.sc x && !decide (x = r)⟩ := by
  have hg : ∀ x, (Col.mk C.mz (fun x => C.sc x && !decide (x = r))).grey x = true → C.grey x = true ∨ x = r := by
    intro x hx
    obtain ⟨h1, h2⟩ := grey_iff.1 hx
    have h2' : (C.sc x && !decide (x = r)) = false := h2
    by_cases e : x = r
    · exact .inr e
    · left
      simp [e] at h2'
      exact grey_iff.2 ⟨h1, h2'⟩
  refine ⟨?_, ho.room, ho.few, ?_, ho.mz, ?_, ho.size⟩
  · by_cases h : o.gs.length < o.room
    · simp only [h, if_true]; exact ho.grey.push hg h
    · simp only [h, if_false]; exact ho.grey.full
  · intro x hx
    simp only at hx
    split at hx
    · rcases List.mem_append.1 hx with h1 | h1
      · exact ho.refs x h1
      · simp at h1; subst h1; exact ⟨h0, hr⟩
    · exact ho.refs x hx
  · intro x hx
    have hx' : (C.sc x && !decide (x = r)) = true := hx
    simp only [Bool.and_eq_true] at hx'
    exact ho.sc x hx'.1
theorem KBlacken (S : Sep w0 w L) (i : Nat) (hi : L[i]? = some (markR m a n C)) (r : Nat) (h0 : 0 < r) (hr : r < n) : Calls Tryz.prog 21 #[.pointer (some ⟨m, 0, none⟩), .int .i64 (r : Int)] w fun e w' => e = .returned (.tuple #[]) ∧ Sep w0 w' (L.set i (markR m a n (C.black r))) := by
  obtain ⟨o, ho, hs⟩ := mark_open S i hi
  have c1 := (hs.blk 0 rfl).cell 1
  simp only [List.getElem?_toArray, List.getElem?_cons_zero, List.getElem?_cons_succ] at c1
  have hz : ((r : Int) == 0) = false := by simp; omega
  have hz2 : ¬ (r : Int) = 0 := by omega
  have hz3 : ((r : Int) != 0) = true := by simp; omega
  have hsz := ho.size
  have HI := Lib.hid hi
  have HO := Lib.hid ho
  have HC := Lib.hid (TSPut hs 1 rfl (by omega) r (by omega))
  clear hs ho S hi
  go_enter Tryz.func21, Tryz.ntmps21
  go_wp2_with (first
    | (go_at_call 49; refine HC.out.mono ?_; rintro e w1 ⟨rfl, hs⟩; have c2 := (hs.blk 0 rfl).cell 2; simp only [List.getElem?_toArray, List.getElem?_cons_zero, List.getElem?_cons_succ] at c2; have HC2 := Lib.hid (TSPut hs 2 rfl (by omega) r (by omega)); clear hs HC)
    | (go_at_call 49; refine HC2.out.mono ?_; rintro e w2 ⟨rfl, hs⟩; have HS := Lib.hid hs; clear hs HC2))
  go_end0
  exact ⟨rfl, mark_shut (ok_black HO.out h0 hr) HS.out HI.out⟩
end
end Go.Proofs.YtbcabjpafeocgaaGreat

/-
  The number of one bits of a word, as the library reckons it (plain). Conditions: as each theorem says; no walk.
-/
namespace Go.Proofs.YtbcabjpafeocgaaGreat
set_option linter.unusedVariables false
set_option linter.unusedSimpArgs false

theorem and_split (k hi lo M m : Nat) (hlo : lo < 2 ^ k) (hm : m < 2 ^ k) : (2 ^ k * hi + lo) &&& (2 ^ k * M + m) = 2 ^ k * (hi &&& M) + (lo &&& m) := by
  apply Nat.eq_of_testBit_eq
  intro j
  rw [Nat.testBit_and, Nat.testBit_two_pow_mul_add _ hlo, Nat.testBit_two_pow_mul_add _ hm, Nat.testBit_two_pow_mul_add _ (Nat.and_lt_two_pow _ hm)]
  split <;> rw [Nat.testBit_and]
theorem and_byte64 (b v c M : Nat) (hb : b < 256) (hc : c < 256) : (b + 256 * v) &&& (c + 256 * M) = (b &&& c) + 256 * (v &&& M) := by
  have := and_split 8 v b M c hb hc
  rw [show (2 : Nat) ^ 8 = 256 from rfl] at this
  rw [Nat.add_comm b, Nat.add_comm c, this, Nat.add_comm]

/-- n times the byte c. -/
def maskN (c : Nat) : Nat → Nat
  | 0 => 0
  | n + 1 => c + 256 * maskN c n
/-- f at each byte. -/
def lanes (f : Nat → Nat) : Nat → Nat → Nat
  | 0, _ => 0
  | n + 1, x => f (x % 256) + 256 * lanes f n (x / 256)

def s1 (b : Nat) : Nat := ((b / 2) &&& 85) + (b &&& 85)
def s2 (b : Nat) : Nat := ((b / 4) &&& 51) + (b &&& 51)
def s3 (b : Nat) : Nat := (b / 16 + b) &&& 15
def pop8 (b : Nat) : Nat := (List.range 8).countP b.testBit

theorem lanes_mod {f : Nat → Nat} (hf : ∀ b, b < 256 → f b < 256) (n x : Nat) : lanes f (n + 1) x % 256 = f (x % 256) ∧ lanes f (n + 1) x / 256 = lanes f n (x / 256) := by
  have h := hf (x % 256) (Nat.mod_lt _ (by omega))
  show (f (x % 256) + 256 * lanes f n (x / 256)) % 256 = _ ∧ (f (x % 256) + 256 * lanes f n (x / 256)) / 256 = _
  omega
theorem lanes_comp {f g : Nat → Nat} (hf : ∀ b, b < 256 → f b < 256) : ∀ n x, lanes g n (lanes f n x) = lanes (fun b => g (f b)) n x
  | 0, _ => rfl
  | n + 1, x => by
    obtain ⟨h1, h2⟩ := lanes_mod hf n x
    show g (lanes f (n + 1) x % 256) + 256 * lanes g n (lanes f (n + 1) x / 256) = _
    rw [h1, h2, lanes_comp hf n]
    rfl
theorem lanes_congr {f g : Nat → Nat} (h : ∀ b, b < 256 → f b = g b) : ∀ n x, lanes f n x = lanes g n x
  | 0, _ => rfl
  | n + 1, x => by
    show f (x % 256) + 256 * lanes f n (x / 256) = g (x % 256) + 256 * lanes g n (x / 256)
    rw [h _ (Nat.mod_lt _ (by omega)), lanes_congr h n]

theorem mask1 : ∀ b, b < 256 → ∀ t, t < 2 → (b / 2 + 128 * t) &&& 85 = (b / 2) &&& 85 := by decide +kernel
theorem mask2 : ∀ b, b < 256 → ∀ t, t < 4 → (b / 4 + 64 * t) &&& 51 = (b / 4) &&& 51 := by decide +kernel
theorem mask3 : ∀ b, b < 128 → ∀ t, t < 8 → (b + 16 * t) &&& 15 = b &&& 15 := by decide +kernel

theorem step1 : ∀ n x, x < 256 ^ n → ((x / 2) &&& maskN 85 n) + (x &&& maskN 85 n) = lanes s1 n x
  | 0, x, h => by simp [maskN, lanes]
  | n + 1, x, h => by
    obtain ⟨b, v, rfl, hb⟩ : ∃ b v, x = b + 256 * v ∧ b < 256 := ⟨x % 256, x / 256, by omega, Nat.mod_lt _ (by omega)⟩
    have hv : v < 256 ^ n := by rw [Nat.pow_succ] at h; omega
    have ih := step1 n v hv
    have e : (b + 256 * v) / 2 = (b / 2 + 128 * (v % 2)) + 256 * (v / 2) := by omega
    show ((b + 256 * v) / 2 &&& (85 + 256 * maskN 85 n)) + (b + 256 * v &&& (85 + 256 * maskN 85 n)) = s1 ((b + 256 * v) % 256) + 256 * lanes s1 n ((b + 256 * v) / 256)
    rw [e, and_byte64 _ _ _ _ (by omega) (by omega), and_byte64 _ _ _ _ hb (by omega), mask1 b hb _ (Nat.mod_lt _ (by omega)), show (b + 256 * v) % 256 = b by omega, show (b + 256 * v) / 256 = v by omega, ← ih]
    unfold s1
    omega
theorem step2 : ∀ n x, x < 256 ^ n → ((x / 4) &&& maskN 51 n) + (x &&& maskN 51 n) = lanes s2 n x
  | 0, x, h => by simp [maskN, lanes]
  | n + 1, x, h => by
    obtain ⟨b, v, rfl, hb⟩ : ∃ b v, x = b + 256 * v ∧ b < 256 := ⟨x % 256, x / 256, by omega, Nat.mod_lt _ (by omega)⟩
    have hv : v < 256 ^ n := by rw [Nat.pow_succ] at h; omega
    have ih := step2 n v hv
    have e : (b + 256 * v) / 4 = (b / 4 + 64 * (v % 4)) + 256 * (v / 4) := by omega
    show ((b + 256 * v) / 4 &&& (51 + 256 * maskN 51 n)) + (b + 256 * v &&& (51 + 256 * maskN 51 n)) = s2 ((b + 256 * v) % 256) + 256 * lanes s2 n ((b + 256 * v) / 256)
    rw [e, and_byte64 _ _ _ _ (by omega) (by omega), and_byte64 _ _ _ _ hb (by omega), mask2 b hb _ (Nat.mod_lt _ (by omega)), show (b + 256 * v) % 256 = b by omega, show (b + 256 * v) / 256 = v by omega, ← ih]
    unfold s2
    omega
/-- Both halves of each byte are at most four. -/
def small (b : Nat) : Bool := decide (b % 16 ≤ 4) && decide (b / 16 ≤ 4)
theorem step3 {f : Nat → Nat} (hf : ∀ b, b < 256 → small (f b) = true) : ∀ n x, ((lanes f n x / 16 + lanes f n x) &&& maskN 15 n) = lanes (fun b => s3 (f b)) n x
  | 0, x => by simp [maskN, lanes]
  | n + 1, x => by
    have hb := hf (x % 256) (Nat.mod_lt _ (by omega))
    have ih := step3 hf n (x / 256)
    have hv16 : lanes f n (x / 256) % 16 ≤ 4 := by
      cases n with
      | zero => show 0 % 16 ≤ 4; omega
      | succ m =>
        have h2 := hf (x / 256 % 256) (Nat.mod_lt _ (by omega))
        unfold small at h2
        simp at h2
        show (f (x / 256 % 256) + 256 * _) % 16 ≤ 4
        omega
    obtain ⟨b, hbe⟩ : ∃ b, f (x % 256) = b := ⟨_, rfl⟩
    obtain ⟨v, hve⟩ : ∃ v, lanes f n (x / 256) = v := ⟨_, rfl⟩
    rw [hve] at hv16 ih
    rw [hbe] at hb
    unfold small at hb
    simp at hb
    show ((f (x % 256) + 256 * lanes f n (x / 256)) / 16 + (f (x % 256) + 256 * lanes f n (x / 256)) &&& (15 + 256 * maskN 15 n)) = s3 (f (x % 256)) + 256 * lanes (fun b => s3 (f b)) n (x / 256)
    rw [hbe, hve, show (b + 256 * v) / 16 + (b + 256 * v) = (b / 16 + b + 16 * (v % 16)) + 256 * (v / 16 + v) by omega, and_byte64 _ _ _ _ (by omega) (by omega), mask3 _ (by omega) _ (by omega), ih]
    rfl

theorem s1_lt : ∀ b, b < 256 → s1 b < 256 := by decide +kernel
theorem s12_small : ∀ b, b < 256 → small (s2 (s1 b)) = true := by decide +kernel
theorem s123 : ∀ b, b < 256 → s3 (s2 (s1 b)) = pop8 b := by decide +kernel
theorem pop8_le : ∀ b, b < 256 → pop8 b ≤ 8 := by decide +kernel

/-- How many of the first 8n bits are set. -/
def onesN (n x : Nat) : Nat := (List.range (8 * n)).countP x.testBit
theorem testBit_byte (b v : Nat) (hb : b < 256) (j : Nat) : (b + 256 * v).testBit j = if j < 8 then b.testBit j else v.testBit (j - 8) := by
  have := Nat.testBit_two_pow_mul_add v (i := 8) hb j
  rw [show (2 : Nat) ^ 8 = 256 from rfl] at this
  rw [Nat.add_comm, this]
theorem onesN_succ (n b v : Nat) (hb : b < 256) : onesN (n + 1) (b + 256 * v) = pop8 b + onesN n v := by
  unfold onesN pop8
  rw [show 8 * (n + 1) = 8 + 8 * n by omega, List.range_add, List.countP_append, List.countP_map]
  congr 1
  · refine List.countP_congr (fun j hj => ?_)
    rw [testBit_byte b v hb, if_pos (by simpa using hj)]
  · refine List.countP_congr (fun j hj => ?_)
    simp only [Function.comp]
    rw [testBit_byte b v hb, if_neg (by omega), show 8 + j - 8 = j by omega]

def m0 : Nat := 6148914691236517205
def m1 : Nat := 3689348814741910323
def m2 : Nat := 1085102592571150095
/-- What the library reckons. -/
def popA (x : Nat) : Nat := ((x / 2) &&& m0) + (x &&& m0)
def popB (a : Nat) : Nat := ((a / 4) &&& m1) + (a &&& m1)
def popC (b : Nat) : Nat := (b / 16 + b) &&& m2

theorem pop_lanes (x : Nat) (hx : x < 256 ^ 8) : popC (popB (popA x)) = lanes pop8 8 x := by
  have e1 : popA x = lanes s1 8 x := step1 8 x hx
  have hl : ∀ n y, lanes s1 n y < 256 ^ n := by
    intro n
    induction n with
    | zero => intro y; show 0 < 1; omega
    | succ n ih =>
      intro y
      have h1 := s1_lt (y % 256) (Nat.mod_lt _ (by omega))
      have h2 := ih (y / 256)
      show s1 (y % 256) + 256 * lanes s1 n (y / 256) < 256 ^ (n + 1)
      rw [Nat.pow_succ]
      omega
  have e2 : popB (popA x) = lanes (fun b => s2 (s1 b)) 8 x := by
    rw [e1, ← lanes_comp s1_lt]
    exact step2 8 _ (hl 8 x)
  have e3 : popC (popB (popA x)) = lanes (fun b => s3 (s2 (s1 b))) 8 x := by
    rw [e2]
    exact step3 s12_small 8 x
  rw [e3]
  exact lanes_congr s123 8 x

/-- The last sums. -/
theorem pop_sum (x : Nat) (hx : x < 256 ^ 8) {c d e f : Nat} (hc : c = lanes pop8 8 x) (hd : d = c + c / 256) (he : e = d + d / 65536) (hf : f = e + e / 4294967296) : d < 18446744073709551616 ∧ e < 18446744073709551616 ∧ f < 18446744073709551616 ∧ f % 128 = onesN 8 x := by
  have key : ∀ n y, y < 256 ^ (n + 1) → ∃ b v, y = b + 256 * v ∧ b < 256 ∧ v < 256 ^ n := fun n y hy => ⟨y % 256, y / 256, by omega, Nat.mod_lt _ (by omega), by rw [Nat.pow_succ] at hy; omega⟩
  obtain ⟨b0, x1, rfl, h0, hx1⟩ := key 7 x hx
  obtain ⟨b1, x2, rfl, h1, hx2⟩ := key 6 x1 hx1
  obtain ⟨b2, x3, rfl, h2, hx3⟩ := key 5 x2 hx2
  obtain ⟨b3, x4, rfl, h3, hx4⟩ := key 4 x3 hx3
  obtain ⟨b4, x5, rfl, h4, hx5⟩ := key 3 x4 hx4
  obtain ⟨b5, x6, rfl, h5, hx6⟩ := key 2 x5 hx5
  obtain ⟨b6, x7, rfl, h6, hx7⟩ := key 1 x6 hx6
  obtain ⟨b7, x8, rfl, h7, hx8⟩ := key 0 x7 hx7
  obtain rfl : x8 = 0 := by simpa using hx8
  have hstep : ∀ n b v, b < 256 → lanes pop8 (n + 1) (b + 256 * v) = pop8 b + 256 * lanes pop8 n v := by
    intro n b v hb
    show pop8 ((b + 256 * v) % 256) + 256 * lanes pop8 n ((b + 256 * v) / 256) = _
    rw [show (b + 256 * v) % 256 = b by omega, show (b + 256 * v) / 256 = v by omega]
  rw [hstep 7 _ _ h0, hstep 6 _ _ h1, hstep 5 _ _ h2, hstep 4 _ _ h3, hstep 3 _ _ h4, hstep 2 _ _ h5, hstep 1 _ _ h6, hstep 0 _ _ h7, show lanes pop8 0 0 = 0 from rfl] at hc
  rw [onesN_succ 7 _ _ h0, onesN_succ 6 _ _ h1, onesN_succ 5 _ _ h2, onesN_succ 4 _ _ h3, onesN_succ 3 _ _ h4, onesN_succ 2 _ _ h5, onesN_succ 1 _ _ h6, onesN_succ 0 _ _ h7, show onesN 0 0 = 0 from rfl]
  have p0 := pop8_le b0 h0
  have p1 := pop8_le b1 h1
  have p2 := pop8_le b2 h2
  have p3 := pop8_le b3 h3
  have p4 := pop8_le b4 h4
  have p5 := pop8_le b5 h5
  have p6 := pop8_le b6 h6
  have p7 := pop8_le b7 h7
  generalize pop8 b0 = q0 at *
  generalize pop8 b1 = q1 at *
  generalize pop8 b2 = q2 at *
  generalize pop8 b3 = q3 at *
  generalize pop8 b4 = q4 at *
  generalize pop8 b5 = q5 at *
  generalize pop8 b6 = q6 at *
  generalize pop8 b7 = q7 at *
  clear hx hx1 hx2 hx3 hx4 hx5 hx6 hx7 h0 h1 h2 h3 h4 h5 h6 h7 key hstep
  have hd2 : d = q0 + q1 + 256 * (q1 + q2 + 256 * (q2 + q3 + 256 * (q3 + q4 + 256 * (q4 + q5 + 256 * (q5 + q6 + 256 * (q6 + q7 + 256 * q7)))))) := by omega
  have he2 : e = q0 + q1 + q2 + q3 + 256 * (q1 + q2 + q3 + q4 + 256 * (q2 + q3 + q4 + q5 + 256 * (q3 + q4 + q5 + q6 + 256 * (q4 + q5 + q6 + q7 + 256 * (q5 + q6 + q7 + 256 * (q6 + q7 + 256 * q7)))))) := by omega
  have hf2 : f = q0 + q1 + q2 + q3 + q4 + q5 + q6 + q7 + 256 * (q1 + q2 + q3 + q4 + q5 + q6 + q7 + 256 * (q2 + q3 + q4 + q5 + q6 + q7 + 256 * (q3 + q4 + q5 + q6 + q7 + 256 * (q4 + q5 + q6 + q7 + 256 * (q5 + q6 + q7 + 256 * (q6 + q7 + 256 * q7)))))) := by omega
  omega
end Go.Proofs.YtbcabjpafeocgaaGreat

/-
  How many numbers a set has, out of its words (plain). Conditions: as each theorem says; no walk.
-/
namespace Go.Proofs.YtbcabjpafeocgaaGreat
set_option linter.unusedVariables false
set_option linter.unusedSimpArgs false

/-- The one bits of the first m words. -/
def sumOnes (W : Nat → Nat) : Nat → Nat
  | 0 => 0
  | m + 1 => sumOnes W m + onesN 8 (W m)
theorem sumOnes_eq (W : Nat → Nat) : ∀ m, sumOnes W m = (List.range (64 * m)).countP (bitOf W)
  | 0 => rfl
  | m + 1 => by
    unfold sumOnes
    rw [sumOnes_eq W m, show 64 * (m + 1) = 64 * m + 64 by omega, List.range_add, List.countP_append, List.countP_map]
    congr 1
    unfold onesN
    refine List.countP_congr (fun j hj => ?_)
    have hj' : j < 64 := by simpa using hj
    simp only [Function.comp]
    unfold bitOf
    rw [show (64 * m + j) / 64 = m by omega, show (64 * m + j) % 64 = j by omega]
theorem count_bits {W : Nat → Nat} {n m : Nat} {S : Nat → Bool} (h : Bits W (n : Int) S) (hm : n ≤ 64 * m) : sumOnes W m = (elems n S).length := by
  rw [sumOnes_eq]
  unfold elems
  rw [← List.countP_eq_length_filter]
  obtain ⟨d, hd⟩ : ∃ d, 64 * m = n + d := ⟨64 * m - n, by omega⟩
  rw [hd, List.range_add, List.countP_append, List.countP_map]
  have h1 : (List.range n).countP (bitOf W) = (List.range n).countP S := List.countP_congr (fun j hj => by
    have hj' : j < n := by simpa using hj
    rw [h.at_ (by omega)])
  have h2 : (List.range d).countP (bitOf W ∘ fun x => n + x) = 0 := by
    rw [List.countP_eq_zero]
    intro j hj
    simp only [Function.comp]
    rw [h (n + j)]
    simp
    intro h3
    omega
  omega
theorem sumOnes_le {W : Nat → Nat} : ∀ m, sumOnes W m ≤ 64 * m
  | 0 => Nat.le_refl _
  | m + 1 => by
    have h := sumOnes_le (W := W) m
    have h2 : onesN 8 (W m) ≤ 64 := by
      unfold onesN
      have := List.countP_le_length (p := (W m).testBit) (l := List.range (8 * 8))
      simpa using this
    unfold sumOnes
    omega
end Go.Proofs.YtbcabjpafeocgaaGreat

/-
  Masks of an int: n & (2^k - 1) is n modulo 2^k, whatever n is. Conditions: k at most 32.
-/
namespace Go.Proofs.YtbcabjpafeocgaaGreat
set_option linter.unusedVariables false
set_option linter.unusedSimpArgs false
open Go.RowKit

theorem ofInt_toNat (n : Int) : ((BitVec.ofInt 64 n).toNat : Int) = n % 18446744073709551616 := by
  rw [BitVec.toNat_ofInt]
  have h : 0 ≤ n % ((2 : Int) ^ 64) := Int.emod_nonneg _ (by decide)
  have e : ((2 : Int) ^ 64) = 18446744073709551616 := by decide
  rw [e] at h
  show ((n % ((2 ^ 64 : Nat) : Int)).toNat : Int) = _
  rw [show (((2 ^ 64 : Nat) : Int)) = 18446744073709551616 from by decide]
  omega

theorem and_nat (n : Int) (m : Nat) (hm : m < 4294967296) : bits .and .i64 n (m : Int) = (((BitVec.ofInt 64 n).toNat &&& m : Nat) : Int) := by
  have h2 : (BitVec.ofInt 64 (m : Int)).toNat = m := by
    rw [BitVec.ofInt_natCast, BitVec.toNat_ofNat]; exact Nat.mod_eq_of_lt (by omega)
  have hx : (BitVec.ofInt 64 n).toNat &&& m ≤ m := Nat.and_le_right
  show IntKind.i64.wrap ((BitVec.ofInt 64 n &&& BitVec.ofInt 64 (m : Int)).toNat : Int) = _
  rw [BitVec.toNat_and, h2, IntKind.wrap_i64]
  omega

theorem mask (n : Int) (k : Nat) (hk : k ≤ 32) : bits .and .i64 n (((2 ^ k - 1 : Nat)) : Int) = n % ((2 ^ k : Nat) : Int) := by
  have hp : 2 ^ k ≤ 2 ^ 32 := Nat.pow_le_pow_right (by omega) hk
  have hp0 : 0 < 2 ^ k := Nat.pow_pos (by omega)
  rw [and_nat n _ (by omega), Nat.and_two_pow_sub_one_eq_mod]
  have h := ofInt_toNat n
  have hd : ((2 ^ k : Nat) : Int) ∣ 18446744073709551616 := by
    refine ⟨((2 ^ (64 - k) : Nat) : Int), ?_⟩
    rw [← Int.natCast_mul, ← Nat.pow_add, show k + (64 - k) = 64 by omega]
    decide
  rw [Int.natCast_emod, h, Int.emod_emod_of_dvd _ hd]

theorem and_1 (n : Int) : bits .and .i64 n 1 = n % 2 := mask n 1 (by omega)
theorem and_3 (n : Int) : bits .and .i64 n 3 = n % 4 := mask n 2 (by omega)
theorem and_7 (n : Int) : bits .and .i64 n 7 = n % 8 := mask n 3 (by omega)
theorem and_15 (n : Int) : bits .and .i64 n 15 = n % 16 := mask n 4 (by omega)
theorem and_31 (n : Int) : bits .and .i64 n 31 = n % 32 := mask n 5 (by omega)
theorem and_255 (n : Int) : bits .and .i64 n 255 = n % 256 := mask n 8 (by omega)
theorem and_4095 (n : Int) : bits .and .i64 n 4095 = n % 4096 := mask n 12 (by omega)
theorem and_65535 (n : Int) : bits .and .i64 n 65535 = n % 65536 := mask n 16 (by omega)

end Go.Proofs.YtbcabjpafeocgaaGreat

/-
  The library's population count. Conditions: none.
-/
namespace Go.Proofs.YtbcabjpafeocgaaGreat
set_option linter.unusedVariables false
set_option linter.unusedSimpArgs false
open Go.RowKit

theorem u64and (x m : Nat) (hx : x < 18446744073709551616) (hm : m < 18446744073709551616) : bits .and .u64 (x : Int) (m : Int) = ((x &&& m : Nat) : Int) := u64_and_nat x m hx hm

theorem and_le (x m : Nat) : x &&& m ≤ m := Nat.and_le_right
theorem popA_eq (x : Nat) (hx : x < 18446744073709551616) : IntKind.u64.wrap (bits .and .u64 ((x : Int) / 2) 6148914691236517205 + bits .and .u64 (x : Int) 6148914691236517205) = ((popA x : Nat) : Int) ∧ popA x ≤ 12297829382473034410 := by
  have h1 := u64and (x / 2) m0 (by omega) (by decide)
  have h2 := u64and x m0 hx (by decide)
  rw [show (((x / 2 : Nat)) : Int) = (x : Int) / 2 by omega, show ((m0 : Nat) : Int) = 6148914691236517205 from rfl] at h1
  rw [show ((m0 : Nat) : Int) = 6148914691236517205 from rfl] at h2
  have l1 := and_le (x / 2) m0
  have l2 := and_le x m0
  have hm : m0 = 6148914691236517205 := rfl
  rw [h1, h2, IntKind.wrap_u64]
  unfold popA
  omega
theorem popB_eq (x : Nat) (hx : x < 18446744073709551616) : IntKind.u64.wrap (bits .and .u64 ((x : Int) / 4) 3689348814741910323 + bits .and .u64 (x : Int) 3689348814741910323) = ((popB x : Nat) : Int) ∧ popB x ≤ 7378697629483820646 := by
  have h1 := u64and (x / 4) m1 (by omega) (by decide)
  have h2 := u64and x m1 hx (by decide)
  rw [show (((x / 4 : Nat)) : Int) = (x : Int) / 4 by omega, show ((m1 : Nat) : Int) = 3689348814741910323 from rfl] at h1
  rw [show ((m1 : Nat) : Int) = 3689348814741910323 from rfl] at h2
  have l1 := and_le (x / 4) m1
  have l2 := and_le x m1
  have hm : m1 = 3689348814741910323 := rfl
  rw [h1, h2, IntKind.wrap_u64]
  unfold popB
  omega
theorem popC_eq (x : Nat) (hx : x ≤ 7378697629483820646) : bits .and .u64 ((x : Int) / 16 + (x : Int)) 1085102592571150095 = ((popC x : Nat) : Int) := by
  have h1 := u64and (x / 16 + x) m2 (by omega) (by decide)
  rw [show (((x / 16 + x : Nat)) : Int) = (x : Int) / 16 + (x : Int) by omega, show ((m2 : Nat) : Int) = 1085102592571150095 from rfl] at h1
  rw [h1]
  rfl
theorem add_eq (c k : Nat) (h : c + c / k < 18446744073709551616) : IntKind.u64.wrap ((c : Int) + (c : Int) / (k : Int)) = ((c + c / k : Nat) : Int) := by
  rw [show (c : Int) + (c : Int) / (k : Int) = ((c + c / k : Nat) : Int) by push_cast; rfl, IntKind.wrap_u64]
  exact Int.emod_eq_of_lt (Int.natCast_nonneg _) (Int.ofNat_lt.mpr h)

set_option maxRecDepth 100000 in
theorem Ones64 (x : Nat) (hx : x < 18446744073709551616) (w : World) :
    Calls Tryz.prog 84 #[.int .u64 (x : Int)] w fun e w' => e = .returned (.int .i64 (onesN 8 x : Int)) ∧ w = w' := by
  obtain ⟨eA, lA⟩ := popA_eq x hx
  obtain ⟨eB, lB⟩ := popB_eq (popA x) (by omega)
  have eC := popC_eq (popB (popA x)) lB
  obtain ⟨hd, he, hf, hmod⟩ := pop_sum x (by omega) (pop_lanes x (by omega)) rfl rfl rfl
  have e1 := add_eq _ 256 hd
  have e2 := add_eq _ 65536 he
  have e3 := add_eq _ 4294967296 hf
  have hC : popC (popB (popA x)) ≤ 1085102592571150095 := and_le _ m2
  have em := mask ((popC (popB (popA x)) + popC (popB (popA x)) / 256 + (popC (popB (popA x)) + popC (popB (popA x)) / 256) / 65536 + (popC (popB (popA x)) + popC (popB (popA x)) / 256 + (popC (popB (popA x)) + popC (popB (popA x)) / 256) / 65536) / 4294967296 : Nat) : Int) 7 (by omega)
  have em2 := em.trans (show _ = ((onesN 8 x : Nat) : Int) by rw [← hmod]; rfl)
  rw [show (((2 ^ 7 - 1 : Nat)) : Int) = 127 from rfl] at em2
  simp only [Int.natCast_add, Int.natCast_ediv, show (((256 : Nat)) : Int) = 256 from rfl, show (((65536 : Nat)) : Int) = 65536 from rfl, show (((4294967296 : Nat)) : Int) = 4294967296 from rfl] at em2
  clear em
  simp only [show (((256 : Nat)) : Int) = 256 from rfl, show (((65536 : Nat)) : Int) = 65536 from rfl, show (((4294967296 : Nat)) : Int) = 4294967296 from rfl] at e1 e2 e3
  go_enter Tryz.func84, Tryz.ntmps84
  go_wp2_with fail
  first | (go_ret; done) | (go_ret; exact ⟨rfl, rfl⟩) | fail "x"
end Go.Proofs.YtbcabjpafeocgaaGreat

/-
  Set.Count: how many numbers a set has. Conditions: at most 100000 numbers.
-/
namespace Go.Proofs.YtbcabjpafeocgaaGreat
set_option linter.unusedVariables false
set_option linter.unusedSimpArgs false
open Go.RowKit Go.Shelf
attribute [local go_sem] Oper.semAt_some wide_fn round_fn wide_depth round_depth
attribute [local simp] wide_fn round_fn wide_depth round_depth

section
variable {w : World} {b : Nat} {n : Nat} {S : Nat → Bool} {lo : Option Nat}

theorem OnesWord {W : Nat → Nat} (hW : ∀ k, W k < 18446744073709551616) (k : Nat) (w : World) : Calls Tryz.prog 84 #[.int .u64 ((W k : Nat) : Int)] w fun e w' => e = .returned (.int .i64 (onesN 8 (W k) : Int)) ∧ w = w' := Ones64 (W k) (hW k) w

set_option maxRecDepth 100000 in
set_option maxHeartbeats 2000000 in
theorem SCount (h : SetIs w b (n : Int) S lo) (hn1 : n ≤ 100000) :
    Calls Tryz.prog 56 #[.pointer (some ⟨b, 0, none⟩)] w fun e w' => ∃ lo', e = .returned (.int .i64 ((elems n S).length : Int)) ∧ SetIs w' b (n : Int) S lo' ∧ GrewF w (setF b lo) (setF b lo') ∧ Chg (setF b lo) w w' := by
  obtain ⟨W, h1, h2, h3⟩ := h
  have hm : n ≤ 64 * wordsOf (n : Int) := by unfold wordsOf; omega
  have hm2 : wordsOf (n : Int) ≤ 100000 := by unfold wordsOf; omega
  have hcount := count_bits h2 hm
  obtain ⟨m, hmm⟩ : ∃ m, wordsOf (n : Int) = m := ⟨_, rfl⟩
  have HM := Lib.hid hmm
  rw [hmm] at hm2 hcount
  have HC := Lib.hid hcount
  have H1 := Lib.hid h1
  have H2 := Lib.hid h2
  have H3 := Lib.hid h3
  clear h1 h2 h3 hm hmm hcount
  refine calls_wide ?_
  gi_enter Tryz.func56, Tryz.ntmps56
  gi_wp2_with (gi_at_call 83; refine (calls_in (SWords H3.out (by omega) (by omega))).mono ?_; rw [HM.out]; rintro e w1 ⟨g, rfl, hs, hg, hc⟩; have HS := Lib.hid hs; have HG := Lib.hid hg; have HCH := Lib.hid hc; clear hs hg hc; unfold rowAt)
  gi_loopw [3, 10] (fun s i wr => ∃ k : Nat, k ≤ m ∧ s = .int .i64 ((sumOnes W k : Nat) : Int) ∧ i = .int .i64 k ∧ SetAt wr b n W (some g) ∧ Chg [b] w wr) (fun _ i _ => m + 1 - (intOf i).toNat)
  case atStart => exact ⟨0, by omega, rfl, rfl, HS.out, HCH.out⟩
  case round =>
    obtain ⟨k, hk, rfl, rfl, hS, hC⟩ := hrel
    clear HS HCH
    have hsum : sumOnes W (k + 1) = sumOnes W k + onesN 8 (W k) := rfl
    have hsl := sumOnes_le (W := W) (k + 1)
    by_cases hlt : k < m
    · have hcell : wr.cell? ⟨g, k, none⟩ = some (.int .u64 ((W k : Nat) : Int)) := by
        rw [hS.2.1.cell, wordCells_get _ _ _ (by rw [HM.out]; exact hlt)]
      have HCELL := Lib.hid hcell
      have HS := Lib.hid hS
      have HCH := Lib.hid hC
      have HLT := Lib.hid hlt
      have HSUM := Lib.hid hsum
      rw [hsum] at hsl
      clear hS hC hcell hsum
      gi_wp2_with (first | (gi_at_call 85; refine (calls_in (ALoad g k _ _ HCELL.out)).mono ?_; rintro e w2 ⟨rfl, rfl⟩) | (gi_at_call 84; refine (calls_in (OnesWord H1.out k _)).mono ?_; rintro e w2 ⟨rfl, rfl⟩))
      go_roundw
      case rel => exact ⟨k + 1, HLT.out, by rw [HSUM.out]; go_num, by go_num, HS.out, HCH.out⟩
      case measure => have := HLT.out; simp [intOf]; omega
    · obtain rfl : k = m := by omega
      have HS := Lib.hid hS
      have HCH := Lib.hid hC
      clear hS hC hsum
      gi_wp2
      go_ret
      refine ⟨some g, by rw [← HC.out]; rfl, ⟨W, H1.out, H2.out, HS.out⟩, ?_, ?_⟩
      · intro x hx
        simp [setF] at hx
        rcases hx with rfl | rfl
        · exact .inl (by simp [setF])
        · rcases HG.out with h | h
          · exact .inl (by simp [setF, h])
          · exact .inr h
      · exact HCH.out.mono (by simp [setF])
end
end Go.Proofs.YtbcabjpafeocgaaGreat

/-
  Set.Reset: it has none. Conditions: at most 100000 numbers.
-/
namespace Go.Proofs.YtbcabjpafeocgaaGreat
set_option linter.unusedVariables false
set_option linter.unusedSimpArgs false
open Go.RowKit Go.Shelf
attribute [local go_sem] Oper.semAt_some wide_fn round_fn wide_depth round_depth
attribute [local simp] wide_fn round_fn wide_depth round_depth

theorem AStore (g q : Nat) (x : Value) (y : Int) (w : World) (hc : w.cell? ⟨g, q, none⟩ = some x) (hz : w.frozen? ⟨g, q, none⟩ = false) :
    Calls Tryz.prog 93 #[.pointer (some ⟨g, q, none⟩), .int .u64 y] w fun e w' => e = .returned (.tuple #[]) ∧ w' = w.setCell ⟨g, q, none⟩ (.int .u64 y) := by
  have hst := run_call_store (P := Tryz.prog) Tryz.func104 (by kernel_rfl) (by kernel_rfl) (by kernel_rfl) (by kernel_rfl) (k := .u64) (y := y) hc hz
  go_enter Tryz.func93, Tryz.ntmps93
  go_wp2
  go_end0
  exact ⟨rfl, rfl⟩

section
variable {w : World} {b : Nat} {n : Nat} {S : Nat → Bool} {lo : Option Nat}

/-- The words with the first k of them zero. -/
def zeroTo (W : Nat → Nat) (k : Nat) : Nat → Nat := fun i => if i < k then 0 else W i
theorem zeroTo_succ (W : Nat → Nat) (k : Nat) : (fun i => if i = k then 0 else zeroTo W k i) = zeroTo W (k + 1) := by
  funext i
  unfold zeroTo
  by_cases h : i = k
  · subst h; simp
  · by_cases h2 : i < k
    · rw [if_neg h, if_pos h2, if_pos (by omega)]
    · rw [if_neg h, if_neg h2, if_neg (by omega)]
theorem zeroTo_bits {W : Nat → Nat} {n : Nat} {S : Nat → Bool} (h : Bits W (n : Int) S) : Bits (zeroTo W (wordsOf (n : Int))) (n : Int) (fun _ => false) := by
  intro i
  have h2 := h i
  unfold bitOf zeroTo at *
  by_cases hi : i / 64 < wordsOf (n : Int)
  · rw [if_pos hi]; simp
  · rw [if_neg hi, h2]
    unfold wordsOf at hi
    have : ¬ ((i : Int) < (n : Int)) := by omega
    simp [this]

set_option maxRecDepth 100000 in
set_option maxHeartbeats 2000000 in
theorem SReset (h : SetIs w b (n : Int) S lo) (hn1 : n ≤ 100000) :
    Calls Tryz.prog 66 #[.pointer (some ⟨b, 0, none⟩)] w fun e w' => ∃ lo', e = .returned (.tuple #[]) ∧ SetIs w' b (n : Int) (fun _ => false) lo' ∧ GrewF w (setF b lo) (setF b lo') ∧ Chg (setF b lo) w w' := by
  obtain ⟨W, h1, h2, h3⟩ := h
  have hm2 : wordsOf (n : Int) ≤ 100000 := by unfold wordsOf; omega
  have hzb := zeroTo_bits h2
  obtain ⟨m, hmm⟩ : ∃ m, wordsOf (n : Int) = m := ⟨_, rfl⟩
  have HM := Lib.hid hmm
  rw [hmm] at hm2 hzb
  have HZB := Lib.hid hzb
  have H1 := Lib.hid h1
  have H3 := Lib.hid h3
  clear h1 h2 h3 hmm hzb
  refine calls_wide ?_
  gi_enter Tryz.func66, Tryz.ntmps66
  gi_wp2_with (gi_at_call 83; refine (calls_in (SWords H3.out (by omega) (by omega))).mono ?_; rw [HM.out]; rintro e w1 ⟨g, rfl, hs, hg, hc⟩; have HS := Lib.hid hs; have HG := Lib.hid hg; have HCH := Lib.hid hc; clear hs hg hc; unfold rowAt)
  gi_loopw [8] (fun i wr => ∃ k : Nat, k ≤ m ∧ i = .int .i64 k ∧ SetAt wr b n (zeroTo W k) (some g) ∧ Chg (setF b lo) w wr) (fun i _ => m + 1 - (intOf i).toNat)
  case atStart => exact ⟨0, by omega, rfl, by have := HS.out; unfold zeroTo; simpa using this, HCH.out.mono (by simp [setF])⟩
  case round =>
    obtain ⟨k, hk, rfl, hS, hC⟩ := hrel
    clear HS HCH
    by_cases hlt : k < m
    · have hcell : wr.cell? ⟨g, k, none⟩ = some (.int .u64 ((zeroTo W k k : Nat) : Int)) := by
        rw [hS.2.1.cell, wordCells_get _ _ _ (by rw [HM.out]; exact hlt)]
      have HCELL := Lib.hid hcell
      have HZ := Lib.hid (hS.2.1.frozen k)
      have HS := Lib.hid hS
      have HCH := Lib.hid hC
      have HLT := Lib.hid hlt
      clear hS hC hcell
      gi_wp2_with (gi_at_call 93; refine (calls_in (AStore g k _ 0 _ HCELL.out HZ.out)).mono ?_; rintro e w2 ⟨rfl, rfl⟩)
      go_roundw
      case rel =>
        refine ⟨k + 1, HLT.out, by go_num, ⟨HS.out.1.far (by simpa using HS.out.2.2.symm) _, ?_, HS.out.2.2⟩, ?_⟩
        · rw [← zeroTo_succ, ← wordCells_set]
          exact HS.out.2.1.set_ k _
        · refine HCH.out.setCell ?_ _
          rcases HG.out with h | h
          · exact .inl (by simp [setF, h])
          · exact .inr h
      case measure => have := HLT.out; simp [intOf]; omega
    · obtain rfl : k = m := by omega
      have HS := Lib.hid hS
      have HCH := Lib.hid hC
      clear hS hC
      gi_wp2
      go_end0
      refine ⟨some g, rfl, ⟨_, ?_, HZB.out, HS.out⟩, ?_, HCH.out⟩
      · intro i
        have := H1.out i
        unfold zeroTo
        split <;> omega
      · intro x hx
        simp [setF] at hx
        rcases hx with rfl | rfl
        · exact .inl (by simp [setF])
        · rcases HG.out with h | h
          · exact .inl (by simp [setF, h])
          · exact .inr h
end

section
variable {w0 w : World} {L : List Res} {b : Nat} {n : Nat} {S : Nat → Bool}
theorem TSCount (h : Sep w0 w L) (i : Nat) (hi : L[i]? = some (setR b (n : Int) S)) (hn1 : n ≤ 100000) :
    Calls Tryz.prog 56 #[.pointer (some ⟨b, 0, none⟩)] w fun e w' => e = .returned (.int .i64 ((elems n S).length : Int)) ∧ Sep w0 w' L := by
  refine h.look i hi ?_
  rintro F ⟨lo, rfl, hs⟩
  refine (SCount hs hn1).mono ?_
  rintro e w' ⟨lo', rfl, hs', hg, hc⟩
  exact ⟨_, rfl, ⟨lo', rfl, hs'⟩, hg, hc⟩
theorem TSReset (h : Sep w0 w L) (i : Nat) (hi : L[i]? = some (setR b (n : Int) S)) (hn1 : n ≤ 100000) :
    Calls Tryz.prog 66 #[.pointer (some ⟨b, 0, none⟩)] w fun e w' => e = .returned (.tuple #[]) ∧ Sep w0 w' (L.set i (setR b (n : Int) (fun _ => false))) := by
  refine h.call i hi _ ?_
  rintro F ⟨lo, rfl, hs⟩
  refine (SReset hs hn1).mono ?_
  rintro e w' ⟨lo', rfl, hs', hg, hc⟩
  exact ⟨_, rfl, ⟨lo', rfl, hs'⟩, hg, hc⟩
end
end Go.Proofs.YtbcabjpafeocgaaGreat

/-
  The marker (layer 11): it counts. Conditions: as each contract says.
-/
namespace Go.Proofs.YtbcabjpafeocgaaGreat
set_option linter.unusedVariables false
set_option linter.unusedSimpArgs false
open Go.RowKit Go.Shelf

section
variable {w0 w : World} {L : List Res} {i m a n : Nat} {C : Col}
theorem KCount (S : Sep w0 w L) (i : Nat) (hi : L[i]? = some (markR m a n C)) : Calls Tryz.prog 16 #[.pointer (some ⟨m, 0, none⟩)] w fun e w' => e = .returned (.int .i64 ((elems n C.mz).length : Int)) ∧ Sep w0 w' L := by
  obtain ⟨o, ho, hs⟩ := mark_open S i hi
  have c1 := (hs.blk 0 rfl).cell 1
  simp only [List.getElem?_toArray, List.getElem?_cons_zero, List.getElem?_cons_succ] at c1
  have HI := Lib.hid hi
  have HO := Lib.hid ho
  have HC := Lib.hid (TSCount hs 1 rfl (by have := ho.size; omega))
  clear hs ho S hi
  go_enter Tryz.func16, Tryz.ntmps16
  go_wp2_with (go_at_call 56; refine HC.out.mono ?_; rintro e w' ⟨rfl, hs⟩; have HS := Lib.hid hs; clear hs HC)
  go_ret
  have := mark_shut HO.out HS.out HI.out
  rw [set_self HI.out] at this
  exact ⟨rfl, this⟩
theorem drop_same {S : Nat → Bool} {r : Nat} (h : S r = false) : (fun j => S j && !decide (j = r)) = S := by
  funext j
  by_cases e : j = r
  · subst e; simp [h]
  · simp [e]
theorem KRegrey (S : Sep w0 w L) (i : Nat) (hi : L[i]? = some (markR m a n C)) (r : Nat) (h0 : 0 < r) (hr : r < n) : Calls Tryz.prog 55 #[.pointer (some ⟨m, 0, none⟩), .int .i64 (r : Int)] w fun e w' => e = .returned (.bool (C.sc r)) ∧ Sep w0 w' (L.set i (markR m a n ⟨C.mz, fun x => C.sc x && !decide (x = r)⟩)) := by
  have hz : ((r : Int) == 0) = false := by simp; omega
  have hz2 : ¬ (r : Int) = 0 := by omega
  have HI := Lib.hid hi
  have HSELF := Lib.hid (set_self hi)
  obtain ⟨b, hb⟩ : ∃ b, C.mz r = b := ⟨_, rfl⟩
  have HB := Lib.hid hb
  have HK := Lib.hid (KMarked S i hi r hr)
  obtain ⟨o0, ho0, _⟩ := mark_open S i hi
  cases b with
  | false =>
    have hsc : C.sc r = false := by
      cases h : C.sc r with
      | false => rfl
      | true => rw [ho0.sc r h] at hb; cases hb
    have HSC := Lib.hid hsc
    clear S hi hb ho0 hsc
    go_enter Tryz.func55, Tryz.ntmps55
    go_wp2_with (go_at_call 18; refine HK.out.mono ?_; rw [HB.out]; rintro e w' ⟨rfl, hs⟩; have HS := Lib.hid hs; clear hs HK)
    go_ret
    rw [drop_same HSC.out, HSELF.out, HSC.out]
    exact ⟨rfl, HS.out⟩
  | true =>
    obtain ⟨c, hc⟩ : ∃ c, C.sc r = c := ⟨_, rfl⟩
    have HSC := Lib.hid hc
    have HM := Lib.hid hb
    clear S hi hb ho0 hc
    cases c with
    | false =>
      go_enter Tryz.func55, Tryz.ntmps55
      go_wp2_with (first
        | (go_at_call 18; refine HK.out.mono ?_; rw [HB.out]; rintro e w' ⟨rfl, hs⟩; obtain ⟨o, ho, hs⟩ := mark_open hs i HI.out; have c2 := (hs.blk 0 rfl).cell 2; simp only [List.getElem?_toArray, List.getElem?_cons_zero, List.getElem?_cons_succ] at c2; have HO := Lib.hid ho; have HC := Lib.hid (TSDrop hs 2 rfl (by have := ho.size; omega) r (by omega)); clear hs ho HK)
        | (go_at_call 77; refine HC.out.mono ?_; rw [HSC.out]; rintro e w' ⟨rfl, hs⟩; have HS := Lib.hid hs; clear hs HC))
      go_ret
      have h2 := HS.out
      rw [drop_same HSC.out] at h2
      rw [drop_same HSC.out, HSC.out]
      exact ⟨rfl, mark_shut HO.out h2 HI.out⟩
    | true =>
      go_enter Tryz.func55, Tryz.ntmps55
      go_wp2_with (first
        | (go_at_call 18; refine HK.out.mono ?_; rw [HB.out]; rintro e w' ⟨rfl, hs⟩; obtain ⟨o, ho, hs⟩ := mark_open hs i HI.out; have c2 := (hs.blk 0 rfl).cell 2; simp only [List.getElem?_toArray, List.getElem?_cons_zero, List.getElem?_cons_succ] at c2; have HO := Lib.hid ho; have HC := Lib.hid (TSDrop hs 2 rfl (by have := ho.size; omega) r (by omega)); clear hs ho HK)
        | (go_at_call 77; refine HC.out.mono ?_; rw [HSC.out]; rintro e w1 ⟨rfl, hs⟩; have c3 := (hs.blk 0 rfl).cell 3; simp only [List.getElem?_toArray, List.getElem?_cons_zero, List.getElem?_cons_succ] at c3; have HC2 := Lib.hid (TGPush hs 3 rfl (r : Int) (by rw [ints_length]; have h1 := HO.out.grey.fits; have h2 := HO.out.few; omega)); clear hs HC)
        | (go_at_call 50; refine HC2.out.mono ?_; rintro e w2 ⟨v, rfl, hs⟩; have HS := Lib.hid hs; clear hs HC2))
      go_ret
      refine ⟨by rw [HSC.out]; rfl, mark_shut (ok_regrey HO.out h0 hr HM.out) ?_ HI.out⟩
      have h2 := HS.out
      simp only [ints_length, Int.ofNat_lt] at h2
      by_cases h : o.gs.length < o.room
      · simp only [h, if_true] at h2 ⊢
        rw [← ints_push] at h2
        exact h2
      · simp only [h, if_false] at h2 ⊢
        exact h2
end
end Go.Proofs.YtbcabjpafeocgaaGreat

/-
  The loop over a function whose body changes what the iterator holds: what such an iterator promises, and the law of the loop. Conditions: no program is named here.
-/
namespace Go.Proofs.YtbcabjpafeocgaaGreat
set_option linter.unusedVariables false
set_option linter.unusedSimpArgs false
open Go.RowKit Go.Shelf

/-- As Iter; Kin: what it holds as a round begins. -/
def Iter2 {α : Type} (P : Program) (gf : Nat) (lb : Array Value) (encs : α → Array Value) (xs : List α) (Kin K : List α → List Res) : Prop :=
  ∀ (l : Nat) (w0 : World) (Φ Φx : List α → List Res → Prop) (W : World) (R : List Res),
    (∀ pre x R H W, (pre ++ [x]) <+: xs → Φ pre R → Sep w0 W (Kin (pre ++ [x]) ++ (R ++ H)) → YieldAt Fence.wide 0 P l (encs x) W fun e W' =>
      (e = .returned (.bool true) ∧ ∃ R', Φ (pre ++ [x]) R' ∧ Sep w0 W' (K (pre ++ [x]) ++ (R' ++ H))) ∨ (e = .returned (.bool false) ∧ ∃ R', Φx (pre ++ [x]) R' ∧ Sep w0 W' (K (pre ++ [x]) ++ (R' ++ H)))) →
    Φ [] R → Sep w0 W (K [] ++ R) →
    Calls P gf (#[.func (.yield l) #[] #[]] ++ lb) W fun e W' => (∃ v, e = .returned v) ∧
      ((∃ R', Φ xs R' ∧ Sep w0 W' (K xs ++ R')) ∨ (∃ pre R', pre <+: xs ∧ Φx pre R' ∧ Sep w0 W' (K pre ++ R')))

section
variable {P : Program} {w w0 W : World} {R H : List Res}
theorem rounds_sep2 {α : Type} {g : Nat} {ps : Array Tmp} {assign body : Code} {lb : Array Value} {encs : α → Array Value} {xs : List α} {Kin K : List α → List Res} (hit : Iter2 P g lb encs xs Kin K) (hps : ∀ x, (encs x).size = ps.size)
    {l : Nat} {rec : LoopState → Option Code → Loop} {fn : FuncId} {tmps : Array Value} {df : Nat} (hrec : rec = fun st pe => { state := st, pending := pe, fn, tmps, params := ps, assign, body, defers := df }) {H : List Res}
    (S : Sep w0 W (K [] ++ (objR l (.loop (rec .ready none)) :: (H ++ R))))
    (Φ : List α → List Res → Prop) (Φx : Code → List α → List Res → Prop) (h0 : Φ [] R)
    (hround : ∀ (pre : List α) (x : α) (R G : List Res) (W : World) (r : Loop), (pre ++ [x]) <+: xs → Φ pre R → Sep w0 W (Kin (pre ++ [x]) ++ (objR l (.loop r) :: (H ++ (R ++ G)))) →
      assign.wpIn (Fence.wide.inRound l) 0 P (Exit.then (fun a' W' => ∃ B, Sep w0 W' (Kin (pre ++ [x]) ++ (objR l (.loop r) :: (H ++ (B ++ (R ++ G))))) ∧
        ∀ (r' : Loop) (W2 : World), Sep w0 W2 (Kin (pre ++ [x]) ++ (objR l (.loop r') :: (H ++ (B ++ (R ++ G))))) → body.wpIn (Fence.wide.inRound l) 0 P (roundS w0 K (objR l (.loop r') :: H) G Φ Φx (pre ++ [x])) a' W2) (fun _ _ _ => False))
        { tmps := (ps.zip (encs x)).foldl (fun t (p, v) => t.setIfInBounds p v) tmps, defers := [] } W) :
    Calls P g (#[.func (.yield l) #[] #[]] ++ lb) W fun e W' => ∃ v, e = .returned v ∧
      ((∃ R', Φ xs R' ∧ Sep w0 W' (K xs ++ (objR l (.loop (rec .ready none)) :: (H ++ R')))) ∨
       (∃ c pre R', pre <+: xs ∧ Φx c pre R' ∧ Sep w0 W' (K pre ++ (objR l (.loop (rec .done (some c))) :: (H ++ R'))))) := by
  refine (hit l w0 (fun pre Rs => ∃ R, Rs = objR l (.loop (rec .ready none)) :: (H ++ R) ∧ Φ pre R) (fun pre Rs => ∃ c R, Rs = objR l (.loop (rec .done (some c))) :: (H ++ R) ∧ Φx c pre R) W _ ?_ ⟨R, rfl, h0⟩ S).mono ?_
  · rintro pre x _ G W hpre ⟨R, rfl, hΦ⟩ hS
    simp only [List.cons_append, List.append_assoc] at hS
    have hl := sep_getLoop hS
    have hy := run_yield (P := P) (args := encs x) hl (by rw [hrec]; exact hps x)
    rw [hrec] at hy
    refine ⟨fn, _, assign, body, hy, roundIn_of_wpIn trivial (wpIn_mono (hround pre x R G W _ hpre hΦ hS) ?_)⟩
    rintro e a' W' he
    cases e with
    | exit _ => exact he.elim
    | goto _ => exact he.elim
    | ret => exact he.elim
    | panic _ => exact he.elim
    | outgrown => exact he.elim
    | normal =>
    obtain ⟨B, hS', hbody⟩ := he
    have hl' := sep_getLoop hS'
    refine ⟨_, run_beginRound hl' (by rw [hrec]), ?_⟩
    have hS2 := sep_putLoop hS' (.loop { rec .ready none with state := .busy })
    refine wpIn_mono (hbody _ _ hS2) ?_
    rintro e a3 W3 hp
    have fin : ∀ (jump : Option Code) {R' : List Res}, Sep w0 W3 (K (pre ++ [x]) ++ (objR l (.loop { rec .ready none with state := .busy }) :: (H ++ (R' ++ G)))) →
        (Instr.endRound l jump).run P W3 = .ok (.bool jump.isNone) (W3.putObj l (.loop (rec (if jump.isNone then .ready else .done) jump))) ∧
        Sep w0 (W3.putObj l (.loop (rec (if jump.isNone then .ready else .done) jump))) (K (pre ++ [x]) ++ (objR l (.loop (rec (if jump.isNone then .ready else .done) jump)) :: (H ++ R') ++ G)) := fun jump R' hS3 => by
      have := run_endRound (P := P) jump (sep_getLoop hS3)
      rw [hrec] at this hS3 ⊢
      simp only [List.cons_append, List.append_assoc]
      exact ⟨this, sep_putLoop hS3 _⟩
    cases e with
    | normal =>
      obtain ⟨R', hΦ', hS3⟩ := hp
      obtain ⟨hr, hS4⟩ := fin none hS3
      exact ⟨_, _, hr, .inl ⟨rfl, _, ⟨R', rfl, hΦ'⟩, hS4⟩⟩
    | ret =>
      obtain ⟨R', hΦ', hS3⟩ := hp
      obtain ⟨hr, hS4⟩ := fin (some .ret) hS3
      exact ⟨_, _, hr, .inr ⟨rfl, _, ⟨.ret, R', rfl, hΦ'⟩, hS4⟩⟩
    | exit id =>
      obtain ⟨R', hΦ', hS3⟩ := hp
      obtain ⟨hr, hS4⟩ := fin (some (.exit id)) hS3
      exact ⟨_, _, hr, .inr ⟨rfl, _, ⟨.exit id, R', rfl, hΦ'⟩, hS4⟩⟩
    | goto t =>
      obtain ⟨R', hΦ', hS3⟩ := hp
      obtain ⟨hr, hS4⟩ := fin (some (.goto t)) hS3
      exact ⟨_, _, hr, .inr ⟨rfl, _, ⟨.goto t, R', rfl, hΦ'⟩, hS4⟩⟩
    | panic ch => exact hp.elim
    | outgrown => exact hp.elim
  · rintro e W2 ⟨⟨v, rfl⟩, (⟨_, ⟨R', rfl, hΦ'⟩, hS'⟩ | ⟨pre, _, hpre, ⟨c, R', rfl, hΦ'⟩, hS'⟩)⟩
    · exact ⟨v, rfl, .inl ⟨R', hΦ', hS'⟩⟩
    · exact ⟨v, rfl, .inr ⟨c, pre, R', hpre, hΦ', hS'⟩⟩

theorem wp_range2 {α : Type} {g : Operand} {ps : Array Tmp} {assign body : Code} {Q : Exit → Act → World → Prop} {a : Act}
    {gf : Nat} {lb : Array Value} (hg : a.eval g = .func (.func gf) #[] lb) (eg : ∀ args w, (callFunc gf args).run P w = .ok (.enter gf args) w)
    {encs : α → Array Value} {xs : List α} {Kin K : List α → List Res} (hit : Iter2 P gf lb encs xs Kin K) (hps : ∀ x, (encs x).size = ps.size)
    (S : Sep w0 w (K [] ++ R))
    (Φ : List α → List Res → Prop) (Φx : Code → List α → List Res → Prop) (h0 : Φ [] R)
    (hround : ∀ (l D : Nat) (pre : List α) (x : α) (R G : List Res) (W : World) (r : Loop), (pre ++ [x]) <+: xs → Φ pre R → Sep w0 W (Kin (pre ++ [x]) ++ (objR l (.loop r) :: objR D (.deferred (some [])) :: (R ++ G))) →
      assign.wpIn (Fence.wide.inRound l) 0 P (Exit.then (fun a' W' => ∃ B, Sep w0 W' (Kin (pre ++ [x]) ++ (objR l (.loop r) :: objR D (.deferred (some [])) :: (B ++ (R ++ G)))) ∧
        ∀ (r' : Loop) (W2 : World), Sep w0 W2 (Kin (pre ++ [x]) ++ (objR l (.loop r') :: objR D (.deferred (some [])) :: (B ++ (R ++ G)))) → body.wpIn (Fence.wide.inRound l) 0 P (roundS w0 K [objR l (.loop r'), objR D (.deferred (some []))] G Φ Φx (pre ++ [x])) a' W2) (fun _ _ _ => False))
        { tmps := (ps.zip (encs x)).foldl (fun t (p, v) => t.setIfInBounds p v) a.tmps, defers := [] } W)
    (hdone : ∀ (D : Nat) (R : List Res) (W : World), Φ xs R → Sep w0 W (K xs ++ (objR D (.deferred (some [])) :: R)) → Q .normal { a with defers := { target := .collected D, args := #[] } :: a.defers } W)
    (hstop : ∀ (D : Nat) (c : Code) (pre : List α) (R : List Res) (W : World), pre <+: xs → Φx c pre R → Sep w0 W (K pre ++ (objR D (.deferred (some [])) :: R)) → c.wpIn Fence.wide 0 P Q { a with defers := { target := .collected D, args := #[] } :: a.defers } W) :
    (Code.rangeFunc g ps assign body).wpIn Fence.wide 0 P Q a w := by
  refine wpIn_rangeFunc ?_
  intro fn _
  rw [show Fence.wide.round = none from rfl]
  obtain ⟨rec, hrec⟩ : ∃ rec : LoopState → Option Code → Loop, rec = fun st pe => { state := st, pending := pe, fn, tmps := a.tmps, params := ps, assign, body, defers := w.heap.size } := ⟨_, rfl⟩
  have S1 : Sep w0 ((w.alloc (.deferred (some []))).alloc (.loop (rec .ready none))) (K [] ++ (objR (w.heap.size + 1) (.loop (rec .ready none)) :: ([objR w.heap.size (.deferred (some []))] ++ R))) := by
    have := (S.alloc (.deferred (some []))).alloc (.loop (rec .ready none))
    rw [World.size_alloc] at this
    exact this.perm (perm_mid [objR (w.heap.size + 1) (.loop (rec .ready none)), objR w.heap.size (.deferred (some []))] (K []) R)
  obtain ⟨W1, hW1⟩ : ∃ W1, (w.alloc (.deferred (some []))).alloc (.loop (rec .ready none)) = W1 := ⟨_, rfl⟩
  refine ⟨w.heap.size + 1, [{ target := .collected w.heap.size, args := #[] }], W1, { target := .fn (.func gf) lb, args := #[.func (.yield (w.heap.size + 1)) #[] #[]] }, W1, gf,
    #[.func (.yield (w.heap.size + 1)) #[] #[]] ++ lb, W1, ?_, ?_, ?_, ?_, (by intro h; cases h), callsIn_wide.2 ?_⟩
  · rw [← hW1, hrec]; exact run_enterLoop_outer _ _ _ _ _
  · simp only [resolve, hg]
    simp [go_sem]
  · intro f' _; trivial
  · simp [invoke, go_sem, eg]
  · rw [hW1] at S1
    refine (rounds_sep2 hit hps hrec S1 Φ Φx h0 (fun pre x R G W r h1 h2 h3 => hround _ _ pre x R G W r h1 h2 h3)).mono ?_
    rintro e W2 ⟨v, rfl, (⟨R', hΦ', hS'⟩ | ⟨c, pre, R', hpre, hΦ', hS'⟩)⟩
    · refine ⟨none, _, by have := run_endLoop (P := P) (sep_getLoop hS') (by rw [hrec]; simp); rw [hrec] at this; exact this, ?_⟩
      refine hdone _ R' _ hΦ' ?_
      have h5 := sep_putLoop hS' (.loop { rec .ready none with state := .exhausted })
      rw [hrec] at h5
      exact (h5.perm (perm_mid _ [_] _)).tail
    · refine ⟨some c, _, by have := run_endLoop (P := P) (sep_getLoop hS') (by rw [hrec]; simp); rw [hrec] at this; exact this, ?_⟩
      refine hstop _ c pre R' _ hpre hΦ' ?_
      have h5 := sep_putLoop hS' (.loop { rec .done (some c) with state := .exhausted })
      rw [hrec] at h5
      exact (h5.perm (perm_mid _ [_] _)).tail

end
end Go.Proofs.YtbcabjpafeocgaaGreat

/-
  The iterator over a set whose elements the body drops, each as it comes. Conditions: at most 100000 numbers.
-/
namespace Go.Proofs.YtbcabjpafeocgaaGreat
set_option linter.unusedVariables false
set_option linter.unusedSimpArgs false
open Go.RowKit Go.Shelf
attribute [local go_sem] Oper.semAt_some wide_fn round_fn wide_depth round_depth
attribute [local simp] wide_fn round_fn wide_depth round_depth

/-- A set without these. -/
def without (S : Nat → Bool) (l : List Nat) : Nat → Bool := fun i => S i && !decide (i ∈ l)
theorem without_nil (S : Nat → Bool) : without S [] = S := by funext i; simp [without]
theorem without_at (S : Nat → Bool) (k : Nat) : without S (elems k S) k = S k := by
  have : k ∉ elems k S := fun h => by have := (mem_elems.1 h).1; omega
  simp [without, this]
theorem without_push (S : Nat → Bool) (l : List Nat) (x : Nat) : without S (l ++ [x]) = fun i => without S l i && !decide (i = x) := by
  funext i
  by_cases h1 : i ∈ l <;> by_cases h2 : i = x <;> simp [without, h1, h2]
theorem without_all {n : Nat} {S : Nat → Bool} (h : ∀ i, S i = true → i < n) : without S (elems n S) = fun _ => false := by
  funext i
  unfold without
  cases e : S i with
  | false => rfl
  | true =>
    have : i ∈ elems n S := mem_elems.2 ⟨h i e, e⟩
    simp [this]
set_option maxHeartbeats 2000000 in
theorem set_iter2 (B b : Nat) (n : Nat) (S : Nat → Bool) (hn : n ≤ 100000) :
    Iter2 Tryz.prog 92 #[.pointer (some ⟨B, 0, none⟩)] (fun i : Nat => #[.int .i64 (i : Int)]) (elems n S) (fun pre => [blkR B 86 #[.pointer (some ⟨b, 0, none⟩)], setR b n (without S pre.dropLast)]) (fun pre => [blkR B 86 #[.pointer (some ⟨b, 0, none⟩)], setR b n (without S pre)]) := by
  intro l w0 Φ Φx W R hY h0 hS
  dsimp only [List.cons_append, List.nil_append] at hY hS
  have HY := Lib.hid hY
  have HS := Lib.hid hS
  have H0 := Lib.hid h0
  have hb := (hS.blk 0 rfl).cell 0
  have hn0 := set_n hS 1 rfl
  simp at hb
  clear hY h0 hS
  refine calls_wide ?_
  gi_enter Tryz.func92, Tryz.ntmps92
  gi_wp2
  clear hn0 hb
  gi_loopw [8] (fun i wr => ∃ (k : Nat) (R' : List Res), k ≤ n ∧ i = .int .i64 k ∧ Φ (elems k S) R' ∧ Sep w0 wr (blkR B 86 #[.pointer (some ⟨b, 0, none⟩)] :: setR b n (without S (elems k S)) :: R')) (fun i _ => n + 1 - (intOf i).toNat)
  case atStart => exact ⟨0, R, by omega, rfl, H0.out, HS.out⟩
  case round =>
    obtain ⟨k, R', hk, rfl, hΦ, hS⟩ := hrel
    clear H0 HS
    by_cases hlt : k < n
    · have hb := (hS.blk 0 rfl).cell 0
      simp at hb
      have HS := Lib.hid hS
      have HP := Lib.hid hΦ
      have HLT := Lib.hid hlt
      have hIn : (k : Int) < (n : Int) := by omega
      have hn1 : (n : Int) ≤ 100000 := by omega
      clear hS hΦ
      obtain ⟨B', hB⟩ : ∃ B', S k = B' := ⟨_, rfl⟩
      have HB := Lib.hid hB
      clear hB
      cases B'
      · gi_wp2_with (gi_at_call 58; refine (calls_in (TSHas HS.out 1 rfl hn1 k hIn)).mono ?_; rw [without_at, HB.out]; rintro e w1 ⟨rfl, hs⟩; have HS1 := Lib.hid hs; clear hs)
        go_roundw
        case rel => exact ⟨k + 1, R', HLT.out, by go_num, by rw [elems_succ, HB.out]; simpa using HP.out, by rw [elems_succ, HB.out]; simpa using HS1.out⟩
        case measure => have := HLT.out; simp [intOf]; omega
      · gi_wp2_with (gi_at_call 58; refine (calls_in (TSHas HS.out 1 rfl hn1 k hIn)).mono ?_; rw [without_at, HB.out]; rintro e w1 ⟨rfl, hs⟩; have HS1 := Lib.hid hs; clear hs; obtain ⟨fn, tmps, assign, body, hy, hR⟩ := HY.out (elems k S) k R' [] w1 (by rw [show elems k S ++ [k] = elems (k + 1) S by rw [elems_succ, HB.out]; rfl]; exact elems_prefix S HLT.out) HP.out (by rw [List.dropLast_concat]; simpa using HS1.out); have HR := Lib.hid hR; clear hR)
        refine HR.out.mono ?_
        simp only [List.append_nil]
        rintro e w2 (⟨rfl, R2, hΦ2, hS2⟩ | ⟨rfl, R2, hΦ2, hS2⟩)
        · have HS2 := Lib.hid hS2
          have HP2 := Lib.hid hΦ2
          clear hS2 hΦ2
          gi_wp2
          go_roundw
          case rel => exact ⟨k + 1, R2, HLT.out, by go_num, by rw [elems_succ, HB.out]; exact HP2.out, by rw [elems_succ, HB.out]; exact HS2.out⟩
          case measure => have := HLT.out; simp [intOf]; omega
        · have HS2 := Lib.hid hS2
          have HP2 := Lib.hid hΦ2
          clear hS2 hΦ2
          gi_wp2
          refine bodyPost_ret (results_none rfl _ _ _) rfl ?_
          exact ⟨⟨_, rfl⟩, .inr ⟨elems k S ++ [k], R2, by rw [show elems k S ++ [k] = elems (k + 1) S by rw [elems_succ, HB.out]; rfl]; exact elems_prefix S HLT.out, HP2.out, HS2.out⟩⟩
    · obtain rfl : k = n := by omega
      have HS := Lib.hid hS
      have HP := Lib.hid hΦ
      clear hS hΦ
      gi_wp2
      go_end0
      exact ⟨⟨_, rfl⟩, .inl ⟨R', HP.out, HS.out⟩⟩
end Go.Proofs.YtbcabjpafeocgaaGreat

/-
  (The part of layer 2 that layers above it use.)
  Contracts of the functions of layer 2 (size). Conditions: as each contract says.
-/
namespace Go.Proofs.YtbcabjpafeocgaaGreat
set_option linter.unusedVariables false
set_option linter.unusedSimpArgs false
open Go.RowKit

/-- A class's words; 0: there is no such class. -/
def wordsZ (c : Int) : Int := if c = 0 then 2 else if c = 1 then 4 else if c = 2 then 8 else 0
def cellsZ (c : Int) : Int := if c = 0 then 16 else if c = 1 then 8 else if c = 2 then 4 else 0
/-- The class of so many fields. -/
def classZ (n : Int) : Int := if n ≤ 0 then 0 else if n ≤ 2 then 1 else 2

theorem class_cases (c : Int) : c < 0 ∨ c = 0 ∨ c = 1 ∨ c = 2 ∨ 3 ≤ c := by omega
theorem wordsZ_out {c : Int} (h : c < 0 ∨ 3 ≤ c) : wordsZ c = 0 := by unfold wordsZ; rw [if_neg (by omega), if_neg (by omega), if_neg (by omega)]
theorem cellsZ_out {c : Int} (h : c < 0 ∨ 3 ≤ c) : cellsZ c = 0 := by unfold cellsZ; rw [if_neg (by omega), if_neg (by omega), if_neg (by omega)]

theorem Words (c : Int) (w : World) : Calls Tryz.prog 94 #[.int .i64 c] w fun e w' => e = .returned (.int .i64 (wordsZ c)) ∧ w = w' := by
  rcases class_cases c with h | rfl | rfl | rfl | h
  · rw [wordsZ_out (.inl h)]
    go_enter Tryz.func94, Tryz.ntmps94
    go_wp2
    go_ret
    exact ⟨rfl, rfl⟩
  · go_enter Tryz.func94, Tryz.ntmps94
    go_wp2
    go_ret
    exact ⟨rfl, rfl⟩
  · go_enter Tryz.func94, Tryz.ntmps94
    go_wp2
    go_ret
    exact ⟨rfl, rfl⟩
  · go_enter Tryz.func94, Tryz.ntmps94
    go_wp2
    go_ret
    exact ⟨rfl, rfl⟩
  · rw [wordsZ_out (.inr h)]
    go_enter Tryz.func94, Tryz.ntmps94
    go_wp2
    go_ret
    exact ⟨rfl, rfl⟩

theorem Cells (c : Int) (w : World) : Calls Tryz.prog 80 #[.int .i64 c] w fun e w' => e = .returned (.int .i64 (cellsZ c)) ∧ w = w' := by
  rcases class_cases c with h | rfl | rfl | rfl | h
  · rw [cellsZ_out (.inl h)]
    go_enter Tryz.func80, Tryz.ntmps80
    go_wp2_with (go_at_call 94; refine (Words _ _).mono ?_; rintro e w' ⟨rfl, rfl⟩; rw [wordsZ_out (.inl h)])
    go_ret
    exact ⟨rfl, rfl⟩
  · go_enter Tryz.func80, Tryz.ntmps80
    go_wp2_with (go_at_call 94; refine (Words _ _).mono ?_; rintro e w' ⟨rfl, rfl⟩; rw [show wordsZ 0 = 2 from rfl])
    go_ret
    exact ⟨rfl, rfl⟩
  · go_enter Tryz.func80, Tryz.ntmps80
    go_wp2_with (go_at_call 94; refine (Words _ _).mono ?_; rintro e w' ⟨rfl, rfl⟩; rw [show wordsZ 1 = 4 from rfl])
    go_ret
    exact ⟨rfl, rfl⟩
  · go_enter Tryz.func80, Tryz.ntmps80
    go_wp2_with (go_at_call 94; refine (Words _ _).mono ?_; rintro e w' ⟨rfl, rfl⟩; rw [show wordsZ 2 = 8 from rfl])
    go_ret
    exact ⟨rfl, rfl⟩
  · rw [cellsZ_out (.inr h)]
    go_enter Tryz.func80, Tryz.ntmps80
    go_wp2_with (go_at_call 94; refine (Words _ _).mono ?_; rintro e w' ⟨rfl, rfl⟩; rw [wordsZ_out (.inr h)])
    go_ret
    exact ⟨rfl, rfl⟩

theorem words_nonneg (c : Int) : 0 ≤ wordsZ c ∧ wordsZ c ≤ 8 := by unfold wordsZ; omega
theorem cells_nonneg (c : Int) : 0 ≤ cellsZ c ∧ cellsZ c ≤ 16 := by unfold cellsZ; omega
theorem cells_words (c : Int) (h : 0 < cellsZ c) : cellsZ c * wordsZ c = 32 ∧ 0 ≤ c ∧ c ≤ 2 := by
  rcases class_cases c with h1 | rfl | rfl | rfl | h1
  · rw [cellsZ_out (.inl h1)] at h; omega
  · decide
  · decide
  · decide
  · rw [cellsZ_out (.inr h1)] at h; omega

theorem OffsetNo (c cell : Int) (w : World) (h : cell < 0 ∨ cellsZ c ≤ cell) : Calls Tryz.prog 99 #[.int .i64 c, .int .i64 cell] w fun e w' => e = .returned (.tuple #[.int .i64 0, .bool false]) ∧ w = w' := by
  have hc := cells_nonneg c
  by_cases h0 : cell < 0
  · go_enter Tryz.func99, Tryz.ntmps99
    go_wp2_with (go_at_call 80; refine (Cells _ _).mono ?_; rintro e w' ⟨rfl, rfl⟩)
    go_ret2
    exact ⟨rfl, rfl⟩
  · have h1 : cellsZ c ≤ cell := by omega
    clear h
    go_enter Tryz.func99, Tryz.ntmps99
    go_wp2_with (go_at_call 80; refine (Cells _ _).mono ?_; rintro e w' ⟨rfl, rfl⟩)
    go_ret2
    exact ⟨rfl, rfl⟩

theorem OffsetYes (c cell : Int) (w : World) (h0 : 0 ≤ cell) (h1 : cell < cellsZ c) : Calls Tryz.prog 99 #[.int .i64 c, .int .i64 cell] w fun e w' => e = .returned (.tuple #[.int .i64 (cell * wordsZ c), .bool true]) ∧ w = w' := by
  have hc := cells_nonneg c
  have hw := words_nonneg c
  have hm : 0 ≤ cell * wordsZ c := Int.mul_nonneg h0 hw.1
  have hm2 : cell * wordsZ c ≤ 16 * 8 := Int.le_trans (Int.mul_le_mul_of_nonneg_right (by omega : cell ≤ 16) hw.1) (Int.mul_le_mul_of_nonneg_left hw.2 (by omega))
  go_enter Tryz.func99, Tryz.ntmps99
  go_wp2_with (first | (go_at_call 80; refine (Cells _ _).mono ?_; rintro e w' ⟨rfl, rfl⟩) | (go_at_call 94; refine (Words _ _).mono ?_; rintro e w' ⟨rfl, rfl⟩))
  go_ret2
  exact ⟨rfl, rfl⟩

end Go.Proofs.YtbcabjpafeocgaaGreat

/-
  The arena (layer 3): where it lies, as plain data, and contracts of the methods that only look. Conditions: at most 64 pages.
-/
namespace Go.Proofs.YtbcabjpafeocgaaGreat
set_option linter.unusedVariables false
set_option linter.unusedSimpArgs false
open Go.RowKit

/-- n pages; a page's class and how many of its cells are taken; words; the taken Refs; how many pages are free. -/
structure AR where
  n : Nat
  cls : Nat → Int
  cnt : Nat → Int
  wd : Nat → Int
  tk : Nat → Bool
  free : Int
  ids : Nat × Nat × Nat

def pageCells (c k : Nat → Int) (n : Nat) : Array Value := Array.ofFn (n := n * 2) fun i => if i.val % 2 = 0 then .int .i64 (c (i.val / 2)) else .int .i64 (k (i.val / 2))
theorem pageCells_cls (c k : Nat → Int) (n p : Nat) (h : p < n) : (pageCells c k n)[p * 2]? = some (.int .i64 (c p)) := by
  have h1 : p * 2 < n * 2 := by omega
  simp [pageCells, h1]
theorem pageCells_cnt (c k : Nat → Int) (n p : Nat) (h : p < n) : (pageCells c k n)[p * 2 + 1]? = some (.int .i64 (k p)) := by
  have h1 : p * 2 + 1 < n * 2 := by omega
  have h2 : (p * 2 + 1) / 2 = p := by omega
  simp [pageCells, h1, h2]
def updN (f : Nat → Int) (p : Nat) (v : Int) : Nat → Int := fun i => if i = p then v else f i
theorem pageCells_setCls (c k : Nat → Int) (n p : Nat) (v : Int) : (pageCells c k n).setIfInBounds (p * 2) (.int .i64 v) = pageCells (updN c p v) k n := by
  apply Array.ext_getElem?
  intro i
  rw [Array.getElem?_setIfInBounds]
  by_cases hi : i < n * 2
  · have hs : i < (pageCells c k n).size := by simpa [pageCells] using hi
    by_cases h : p * 2 = i
    · subst h
      simp [hs, pageCells, hi, updN]
    · simp [h, pageCells, hi, updN]
      split
      · rename_i he
        have : ¬ i / 2 = p := by omega
        simp [this]
      · rfl
  · have h1 : ∀ c, (pageCells c k n)[i]? = none := by intro c; simp [pageCells]; omega
    rw [h1, h1]
    have : ¬ i < (pageCells c k n).size := by simpa [pageCells] using hi
    split <;> simp_all
theorem pageCells_setCnt (c k : Nat → Int) (n p : Nat) (v : Int) : (pageCells c k n).setIfInBounds (p * 2 + 1) (.int .i64 v) = pageCells c (updN k p v) n := by
  apply Array.ext_getElem?
  intro i
  rw [Array.getElem?_setIfInBounds]
  by_cases hi : i < n * 2
  · have hs : i < (pageCells c k n).size := by simpa [pageCells] using hi
    by_cases h : p * 2 + 1 = i
    · subst h
      have h2 : (p * 2 + 1) / 2 = p := by omega
      simp [hs, pageCells, hi, updN, h2]
    · simp [h, pageCells, hi, updN]
      split
      · rfl
      · rename_i he
        have : ¬ i / 2 = p := by omega
        simp [this]
  · have h1 : ∀ k, (pageCells c k n)[i]? = none := by intro k; simp [pageCells]; omega
    rw [h1, h1]
    have : ¬ i < (pageCells c k n).size := by simpa [pageCells] using hi
    split <;> simp_all

def intCells (f : Nat → Int) (n : Nat) : Array Value := Array.ofFn (n := n) fun i => .int .i64 (f i.val)
theorem intCells_get (f : Nat → Int) (n k : Nat) (h : k < n) : (intCells f n)[k]? = some (.int .i64 (f k)) := by simp [intCells, h]

def AR.size (A : AR) : Int := ((A.n * 32 + 1 : Nat) : Int)
def arenaCells (A : AR) (pb wb sb : Nat) : Array Value := #[rowAt pb A.n, rowAt wb (A.n * 32), .pointer (some ⟨sb, 0, none⟩), .int .i64 A.free]

structure AParts (w : World) (a : Nat) (A : AR) (pb wb sb : Nat) (lo : Option Nat) : Prop where
  top : Blk w a 118 (arenaCells A pb wb sb)
  pages : Blk w pb 120 (pageCells A.cls A.cnt A.n)
  words : Blk w wb 3 (intCells A.wd (A.n * 32))
  set_ : SetIs w sb A.size A.tk lo
  ap : a ≠ pb
  aw : a ≠ wb
  pw : pb ≠ wb
  sa : a ∉ setF sb lo
  sp : pb ∉ setF sb lo
  sw : wb ∉ setF sb lo
  few : A.n ≤ 64
  ids : A.ids = (pb, wb, sb)

/-- The arena at block a; F: the blocks that it owns. -/
def ArenaAt (w : World) (a : Nat) (A : AR) (F : List Nat) : Prop := ∃ pb wb sb lo, F = a :: pb :: wb :: setF sb lo ∧ AParts w a A pb wb sb lo

theorem AParts.keep {w w' : World} {a : Nat} {A : AR} {pb wb sb : Nat} {lo : Option Nat} {F : List Nat} (h : AParts w a A pb wb sb lo) (hc : Chg F w w') (hF : ∀ x ∈ a :: pb :: wb :: setF sb lo, x ∉ F) : AParts w' a A pb wb sb lo :=
  ⟨hc.blk h.top (hF a (by simp)), hc.blk h.pages (hF pb (by simp)), hc.blk h.words (hF wb (by simp)), h.set_.keep hc (fun x hx => hF x (by simp [hx])), h.ap, h.aw, h.pw, h.sa, h.sp, h.sw, h.few, h.ids⟩
theorem ArenaAt.keep {w w' : World} {a : Nat} {A : AR} {F G : List Nat} (h : ArenaAt w a A F) (hc : Chg G w w') (hF : ∀ x ∈ F, x ∉ G) : ArenaAt w' a A F := by
  obtain ⟨pb, wb, sb, lo, rfl, hp⟩ := h
  exact ⟨pb, wb, sb, lo, rfl, hp.keep hc hF⟩
theorem ArenaAt.lt {w : World} {a : Nat} {A : AR} {F : List Nat} (h : ArenaAt w a A F) : ∀ x ∈ F, x < w.heap.size := by
  obtain ⟨pb, wb, sb, lo, rfl, hp⟩ := h
  intro x hx
  simp at hx
  rcases hx with rfl | rfl | rfl | hx
  · exact hp.top.lt
  · exact hp.pages.lt
  · exact hp.words.lt
  · exact hp.set_.lt x hx
theorem GrewF.refl (w : World) (F : List Nat) : GrewF w F F := fun _ h => .inl h
theorem GrewF.trans {w w' : World} {F F' F'' : List Nat} (h : GrewF w F F') (h' : GrewF w' F' F'') (hs : w.heap.size ≤ w'.heap.size) : GrewF w F F'' := fun x hx => by
  rcases h' x hx with h1 | h1
  · exact h x h1
  · exact .inr (by omega)

/-- A call of the arena's set. -/
theorem AParts.set {w w' : World} {a : Nat} {A : AR} {pb wb sb : Nat} {lo lo' : Option Nat} {S : Nat → Bool} (h : AParts w a A pb wb sb lo) (hs : SetIs w' sb A.size S lo') (hg : GrewF w (setF sb lo) (setF sb lo')) (hc : Chg (setF sb lo) w w') :
    AParts w' a { A with tk := S } pb wb sb lo' := by
  have fresh : ∀ x, x < w.heap.size → x ∉ setF sb lo → x ∉ setF sb lo' := fun x hx hn hm => by
    rcases hg x hm with h1 | h1
    · exact hn h1
    · omega
  exact ⟨hc.blk h.top h.sa, hc.blk h.pages h.sp, hc.blk h.words h.sw, hs, h.ap, h.aw, h.pw, fresh a h.top.lt h.sa, fresh pb h.pages.lt h.sp, fresh wb h.words.lt h.sw, h.few, h.ids⟩

section
variable {w : World} {a : Nat} {A : AR} {F : List Nat}

def AR.has (A : AR) (r : Int) : Bool := decide (0 ≤ r) && decide (r < A.size) && A.tk r.toNat

/-- What the arena owns behind a call of its set. -/
theorem grew_arena {pb wb sb : Nat} {lo lo' : Option Nat} (hg : GrewF w (setF sb lo) (setF sb lo')) : GrewF w (a :: pb :: wb :: setF sb lo) (a :: pb :: wb :: setF sb lo') := by
  intro x hx
  simp at hx
  rcases hx with rfl | rfl | rfl | hx
  · simp
  · simp
  · simp
  · rcases hg x hx with h1 | h1
    · simp [h1]
    · exact .inr h1

theorem AHasP {pb wb sb : Nat} {lo : Option Nat} (hp : AParts w a A pb wb sb lo) (r : Int) : Calls Tryz.prog 82 #[.pointer (some ⟨a, 0, none⟩), .int .i64 r] w fun e w' => ∃ lo', e = .returned (.bool (A.has r)) ∧ AParts w' a A pb wb sb lo' ∧ GrewF w (setF sb lo) (setF sb lo') ∧ Chg (setF sb lo) w w' := by
  have HP := Lib.hid hp
  have c2 := hp.top.cell 2
  simp [arenaCells] at c2
  clear hp
  go_enter Tryz.func82, Tryz.ntmps82
  go_wp2_with fail
  by_cases hin : 0 ≤ r ∧ r < A.size
  · obtain ⟨I, rfl⟩ := Int.eq_ofNat_of_zero_le hin.1
    refine (SHasIn HP.out.set_ (by have := HP.out.few; unfold AR.size; omega) I hin.2).mono ?_
    rintro e w' ⟨lo', rfl, hs, hg, hc⟩
    have HF := Lib.hid (HP.out.set hs hg hc)
    have HG := Lib.hid hg
    have HC := Lib.hid hc
    have HIN := Lib.hid hin
    clear hs hg hc hin
    go_wp2_with fail
    go_ret
    refine ⟨_, ?_, HF.out, HG.out, HC.out⟩
    have h1 := HIN.out.1
    have h2 := HIN.out.2
    unfold AR.has
    simp [h1, h2]
  · refine (SHasOut HP.out.set_ r (by omega)).mono ?_
    rintro e w' ⟨rfl, rfl⟩
    have HIN := Lib.hid hin
    clear hin
    go_wp2_with fail
    go_ret
    refine ⟨_, ?_, HP.out, GrewF.refl _ _, Chg.refl _ _⟩
    have h1 := HIN.out
    unfold AR.has
    simp
    intro h2 h3
    exact absurd ⟨h2, h3⟩ h1

theorem AHas (h : ArenaAt w a A F) (r : Int) : Calls Tryz.prog 82 #[.pointer (some ⟨a, 0, none⟩), .int .i64 r] w fun e w' => ∃ F', e = .returned (.bool (A.has r)) ∧ ArenaAt w' a A F' ∧ GrewF w F F' ∧ Chg F w w' := by
  obtain ⟨pb, wb, sb, lo, rfl, hp⟩ := h
  refine (AHasP hp r).mono ?_
  rintro e w' ⟨lo', rfl, hp', hg, hc⟩
  exact ⟨_, rfl, ⟨pb, wb, sb, lo', rfl, hp'⟩, grew_arena hg, hc.mono (by intro x hx; simp [hx])⟩

end
end Go.Proofs.YtbcabjpafeocgaaGreat

/-
  The arena (layer 3): contracts of the methods that only look. Conditions: at most 64 pages.
-/
namespace Go.Proofs.YtbcabjpafeocgaaGreat
set_option linter.unusedVariables false
set_option linter.unusedSimpArgs false
open Go.RowKit

def AR.clsZ (A : AR) (p : Int) : Int := if 0 ≤ p ∧ p < (A.n : Int) then A.cls p.toNat else -1
def AR.page (A : AR) (r : Int) : Int := if 1 ≤ r ∧ r < A.size then (r - 1) / 32 else -1
def refZ (p c cell : Int) : Int := p * 32 + cell * wordsZ c + 1

section
variable {w : World} {a : Nat} {A : AR} {F : List Nat}

theorem APages (h : ArenaAt w a A F) : Calls Tryz.prog 75 #[.pointer (some ⟨a, 0, none⟩)] w fun e w' => e = .returned (.int .i64 (A.n : Int)) ∧ w = w' := by
  obtain ⟨pb, wb, sb, lo, rfl, hp⟩ := h
  have c0 := hp.top.cell 0
  simp [arenaCells, rowAt] at c0
  clear hp
  go_enter Tryz.func75, Tryz.ntmps75
  go_wp2_with fail
  go_ret
  exact ⟨rfl, rfl⟩

theorem ASize (h : ArenaAt w a A F) : Calls Tryz.prog 47 #[.pointer (some ⟨a, 0, none⟩)] w fun e w' => e = .returned (.int .i64 A.size) ∧ w = w' := by
  obtain ⟨pb, wb, sb, lo, rfl, hp⟩ := h
  have c0 := hp.top.cell 0
  have hf := hp.few
  simp [arenaCells, rowAt] at c0
  have hs : A.size = (A.n : Int) * 32 + 1 := by unfold AR.size; omega
  rw [hs]
  clear hp hs
  generalize A.n = n at *
  have h1 : IntKind.i64.wrap ((n : Int) * 32) = (n : Int) * 32 := by rw [IntKind.wrap_i64]; omega
  have h2 : IntKind.i64.wrap ((n : Int) * 32 + 1) = (n : Int) * 32 + 1 := by rw [IntKind.wrap_i64]; omega
  go_enter Tryz.func47, Tryz.ntmps47
  go_wp2_with fail
  go_ret
  exact ⟨rfl, rfl⟩

theorem AClass (h : ArenaAt w a A F) (p : Int) : Calls Tryz.prog 79 #[.pointer (some ⟨a, 0, none⟩), .int .i64 p] w fun e w' => e = .returned (.int .i64 (A.clsZ p)) ∧ w = w' := by
  obtain ⟨pb, wb, sb, lo, rfl, hp⟩ := h
  have c0 := hp.top.cell 0
  simp [arenaCells, rowAt] at c0
  by_cases h0 : p < 0
  · have e : A.clsZ p = -1 := by unfold AR.clsZ; rw [if_neg (by omega)]
    rw [e]
    clear hp e
    go_enter Tryz.func79, Tryz.ntmps79
    go_wp2_with fail
    go_ret
    exact ⟨rfl, rfl⟩
  · by_cases h1 : (A.n : Int) ≤ p
    · have e : A.clsZ p = -1 := by unfold AR.clsZ; rw [if_neg (by omega)]
      rw [e]
      clear hp e
      go_enter Tryz.func79, Tryz.ntmps79
      go_wp2_with fail
      go_ret
      exact ⟨rfl, rfl⟩
    · obtain ⟨k, rfl⟩ := Int.eq_ofNat_of_zero_le (by omega : 0 ≤ p)
      have hk : k < A.n := by omega
      have e : A.clsZ (k : Int) = A.cls k := by unfold AR.clsZ; rw [if_pos (by omega)]; simp
      rw [e]
      have c1 := hp.pages.cell (k * 2)
      rw [pageCells_cls _ _ _ _ hk] at c1
      clear hp e
      go_enter Tryz.func79, Tryz.ntmps79
      go_wp2_with fail
      go_ret
      exact ⟨rfl, rfl⟩

theorem APage (h : ArenaAt w a A F) (r : Int) (hr : r ≤ 9223372036854775807) : Calls Tryz.prog 22 #[.pointer (some ⟨a, 0, none⟩), .int .i64 r] w fun e w' => e = .returned (.int .i64 (A.page r)) ∧ w = w' := by
  have H := Lib.hid h
  clear h
  unfold AR.page
  by_cases h0 : r < 1
  · rw [if_neg (by omega)]
    go_enter Tryz.func22, Tryz.ntmps22
    go_wp2_with fail
    go_ret
    exact ⟨rfl, rfl⟩
  · by_cases h1 : A.size ≤ r
    · rw [if_neg (by omega)]
      go_enter Tryz.func22, Tryz.ntmps22
      go_wp2_with (go_at_call 47; refine (ASize H.out).mono ?_; rintro e w' ⟨rfl, rfl⟩)
      go_ret
      exact ⟨rfl, rfl⟩
    · rw [if_pos (by omega)]
      have h2 : IntKind.i64.wrap (r - 1) = r - 1 := by rw [IntKind.wrap_i64]; omega
      have h3 : 0 ≤ r - 1 := by omega
      go_enter Tryz.func22, Tryz.ntmps22
      go_wp2_with (go_at_call 47; refine (ASize H.out).mono ?_; rintro e w' ⟨rfl, rfl⟩)
      go_ret
      exact ⟨rfl, rfl⟩

theorem ARef (p c cell : Int) (hp0 : 0 ≤ p) (hp1 : p ≤ 1000000) (h0 : 0 ≤ cell) (h1 : cell < cellsZ c) (w : World) : Calls Tryz.prog 81 #[.int .i64 p, .int .i64 c, .int .i64 cell] w fun e w' => e = .returned (.int .i64 (refZ p c cell)) ∧ w = w' := by
  obtain ⟨x, hx⟩ : ∃ x, cell * wordsZ c = x := ⟨_, rfl⟩
  have hb : 0 ≤ x ∧ x ≤ 32 := by
    have hw := words_nonneg c
    obtain ⟨hcw, _⟩ := cells_words c (by omega)
    constructor
    · rw [← hx]; exact Int.mul_nonneg h0 hw.1
    · rw [← hx, ← hcw]; exact Int.mul_le_mul_of_nonneg_right (by omega) hw.1
  have h2 : IntKind.i64.wrap (p * 32) = p * 32 := by rw [IntKind.wrap_i64]; omega
  have h3 : IntKind.i64.wrap (p * 32 + x) = p * 32 + x := by rw [IntKind.wrap_i64]; omega
  have h4 : IntKind.i64.wrap (p * 32 + x + 1) = p * 32 + x + 1 := by rw [IntKind.wrap_i64]; omega
  have HX := Lib.hid hx
  have H0 := Lib.hid h0
  have H1 := Lib.hid h1
  clear hx h0 h1 hb
  go_enter Tryz.func81, Tryz.ntmps81
  go_wp2_with (go_at_call 99; refine (OffsetYes c cell _ H0.out H1.out).mono ?_; rw [HX.out]; rintro e w' ⟨rfl, rfl⟩)
  go_ret
  exact ⟨by unfold refZ; rw [HX.out]; rfl, rfl⟩

end
end Go.Proofs.YtbcabjpafeocgaaGreat

/-
  The arena's search for a free cell (layer 3). Conditions: as each theorem says.
-/
namespace Go.Proofs.YtbcabjpafeocgaaGreat
set_option linter.unusedVariables false
set_option linter.unusedSimpArgs false
open Go.RowKit

/-- The page has no free cell of the class. -/
def AR.full (A : AR) (c : Int) (p : Nat) : Prop := A.cls p ≠ c ∨ A.cls p = c ∧ A.cnt p = cellsZ c ∨ A.cls p = c ∧ A.cnt p ≠ cellsZ c ∧ ∀ k : Int, 0 ≤ k → k < cellsZ c → A.has (refZ p c k) = true
/-- The least free cell of a page of the class. -/
structure IsGap (A : AR) (c : Int) (p : Nat) (k : Int) : Prop where
  inside : p < A.n
  cls : A.cls p = c
  cnt : A.cnt p ≠ cellsZ c
  k0 : 0 ≤ k
  k1 : k < cellsZ c
  free : A.has (refZ p c k) = false
  below : ∀ j : Int, 0 ≤ j → j < k → A.has (refZ p c j) = true
  ahead : ∀ q, q < p → A.full c q

section
variable {w : World} {a : Nat} {A : AR} {F : List Nat}

theorem ArenaAt.alloc {o : Go.Obj} (h : ArenaAt w a A F) : ArenaAt (w.alloc o) a A F := h.keep ((Chg.refl [] w).alloc o) (by simp)

/-- What a page's two cells hold. -/
theorem AParts.page {pb wb sb : Nat} {lo : Option Nat} (h : AParts w a A pb wb sb lo) {p : Nat} (hp : p < A.n) : w.cell? ⟨pb, p * 2, none⟩ = some (.int .i64 (A.cls p)) ∧ w.cell? ⟨pb, p * 2 + 1, none⟩ = some (.int .i64 (A.cnt p)) :=
  ⟨by rw [h.pages.cell, pageCells_cls _ _ _ _ hp], by rw [h.pages.cell, pageCells_cnt _ _ _ _ hp]⟩

set_option maxHeartbeats 4000000 in
theorem AGapYes (h : ArenaAt w a A F) (c : Int) (p : Nat) (k : Int) (hg : IsGap A c p k) : Calls Tryz.prog 96 #[.pointer (some ⟨a, 0, none⟩), .int .i64 c] w fun e w' => ∃ F', e = .returned (.tuple #[.int .i64 (p : Int), .int .i64 k, .bool true]) ∧ ArenaAt w' a A F' ∧ GrewF w F F' ∧ Chg F w w' := by
  obtain ⟨pb, wb, sb, lo, rfl, hp⟩ := h
  have HG := Lib.hid hg
  have HP := Lib.hid hp
  have hn : p < A.n := hg.inside
  have hfew : A.n ≤ 64 := hp.few
  have c0 := hp.top.cell 0
  simp [arenaCells, rowAt] at c0
  clear hg hp
  go_enter Tryz.func96, Tryz.ntmps96
  go_wp2_with fail
  go_step3
  go_wp2
  go_step3
  go_wp2
  clear c0
  go_loopw [15] (fun i wr => ∃ (q : Nat) (lo' : Option Nat), q ≤ p ∧ i = .int .i64 q ∧ AParts wr a A pb wb sb lo' ∧ GrewF w (a :: pb :: wb :: setF sb lo) (a :: pb :: wb :: setF sb lo') ∧ Chg (a :: pb :: wb :: setF sb lo) w wr) (fun i _ => p + 1 - (intOf i).toNat)
  case atStart => exact ⟨0, lo, by omega, rfl, HP.out, GrewF.refl _ _, Chg.refl _ _⟩
  case round =>
    obtain ⟨q, lo', hq, rfl, hp, hgr, hch⟩ := hrel
    clear HP
    have hqn : q < A.n := by omega
    obtain ⟨p0, p1⟩ := hp.page hqn
    have HP := Lib.hid (hp.keep ((Chg.refl [] wr).alloc (.cells #[.int .i64 (A.cls q), .int .i64 (A.cnt q)] 120)) (by simp))
    have HGR := Lib.hid hgr
    have HCH := Lib.hid (hch.alloc (.cells #[.int .i64 (A.cls q), .int .i64 (A.cnt q)] 120))
    clear hp hgr hch
    have hb0 : (0 : Int) ≤ (q : Int) := by omega
    by_cases hc1 : A.cls q = c
    · by_cases hc2 : A.cnt q = cellsZ c
      · have hqp : q < p := by
          rcases Nat.lt_or_ge q p with h | h
          · exact h
          · obtain rfl : q = p := by omega
            exact absurd hc2 HG.out.cnt
        have HQP := Lib.hid hqp
        clear hqp
        rw [hc1] at p0 HP HCH
        rw [hc2] at p1 HP HCH
        go_wp2_with fail
        go_quiet ((go_at_call 80; refine (Cells _ _).mono ?_; rintro e w' ⟨rfl, rfl⟩; exact ⟨rfl, _, rfl⟩))
        go_wp2_with fail
        go_roundw
        case rel => exact ⟨q + 1, lo', HQP.out, by go_num, HP.out.keep ((Chg.refl [] _).drewN _) (by simp), HGR.out, HCH.out.drewN _⟩
        case measure => have := HQP.out; simp [intOf]; omega
      · rw [hc1] at p0 HP HCH
        have hb : (A.cnt q == cellsZ c) = false := by simpa using hc2
        have HALL : Hid (∀ j : Int, 0 ≤ j → j < cellsZ c → (q < p ∨ j < k) → A.has (refZ q c j) = true) := Lib.hid (by
          intro j h0 h1 h2
          rcases Nat.lt_or_ge q p with h | h
          · rcases HG.out.ahead q h with h3 | ⟨_, h3⟩ | ⟨_, _, h3⟩
            · exact absurd hc1 h3
            · exact absurd h3 hc2
            · exact h3 j h0 h1
          · obtain rfl : q = p := by omega
            exact HG.out.below j h0 (by omega))
        have hcn := cells_nonneg c
        have HC1 := Lib.hid hc1
        have HC2 := Lib.hid hc2
        clear hc1 hc2
        go_wp2_with fail
        go_quiet ((go_at_call 80; refine (Cells _ _).mono ?_; rintro e w' ⟨rfl, rfl⟩; exact ⟨rfl, _, rfl⟩))
        go_wp2_with (go_at_call 80; refine (Cells _ _).mono ?_; rintro e w' ⟨rfl, rfl⟩)
        have HP0 := Lib.hid (HP.out.keep ((Chg.refl [] _).drewN nq) (by simp))
        have HCH0 := Lib.hid (HCH.out.drewN nq)
        clear HP HCH hb p0 p1
        go_loopw [33] (fun i wx => ∃ (j : Int) (lo'' : Option Nat), 0 ≤ j ∧ j ≤ cellsZ c ∧ (q < p ∨ j ≤ k) ∧ i = .int .i64 j ∧ AParts wx a A pb wb sb lo'' ∧ GrewF w (a :: pb :: wb :: setF sb lo) (a :: pb :: wb :: setF sb lo'') ∧ Chg (a :: pb :: wb :: setF sb lo) w wx) (fun i _ => (cellsZ c - intOf i).toNat)
        case atStart => exact ⟨0, lo', by omega, by omega, .inr HG.out.k0, rfl, HP0.out, HGR.out, HCH0.out⟩
        case round =>
          obtain ⟨j, lo'', hj0, hj1, hjk, rfl, hp, hgr, hch⟩ := hrel
          clear HP0 HCH0 HGR
          have HP := Lib.hid hp
          have HGR := Lib.hid hgr
          have HCH := Lib.hid hch
          clear hp hgr hch
          by_cases hlt : j < cellsZ c
          · have hqm : (q : Int) ≤ 1000000 := by have := HP.out.few; omega
            generalize hB : A.has (refZ q c j) = B
            have HB := Lib.hid hB
            clear hB
            have HJK := Lib.hid hjk
            clear hjk
            cases B
            · go_wp2_with (first
                | (go_at_call 81; refine (ARef q c j hb0 hqm hj0 hlt _).mono ?_; rintro e w' ⟨rfl, rfl⟩)
                | (go_at_call 82; refine (AHasP HP.out _).mono ?_; rw [HB.out]; rintro e w' ⟨lo3, rfl, hp3, hg3, hc3⟩; have HP3 := Lib.hid hp3; have HG3 := Lib.hid hg3; have HC3 := Lib.hid hc3; clear hp3 hg3 hc3))
              rw [Exit.noGoto_ret]
              go_ret3
              have hbad : ¬ (q < p ∨ j < k) := fun h => by
                have := HALL.out j hj0 hlt h
                rw [HB.out] at this
                cases this
              obtain rfl : q = p := by omega
              obtain rfl : j = k := by rcases HJK.out with h | h <;> omega
              exact ⟨_, rfl, ⟨pb, wb, sb, lo3, rfl, HP3.out⟩, HGR.out.trans (grew_arena HG3.out) HCH.out.size, HCH.out.trans HC3.out (by intro x hx; exact HGR.out x (by simp [hx]))⟩
            · go_wp2_with (first
                | (go_at_call 81; refine (ARef q c j hb0 hqm hj0 hlt _).mono ?_; rintro e w' ⟨rfl, rfl⟩)
                | (go_at_call 82; refine (AHasP HP.out _).mono ?_; rw [HB.out]; rintro e w' ⟨lo3, rfl, hp3, hg3, hc3⟩; have HP3 := Lib.hid hp3; have HG3 := Lib.hid hg3; have HC3 := Lib.hid hc3; clear hp3 hg3 hc3))
              go_roundw
              case rel => exact ⟨j + 1, lo3, by omega, by omega, (by
                rcases HJK.out with h | h
                · exact .inl h
                · by_cases hjk : j = k
                  · by_cases hqp : q < p
                    · exact .inl hqp
                    · obtain rfl : q = p := by omega
                      have := HG.out.free
                      rw [← hjk, HB.out] at this
                      cases this
                  · exact .inr (by omega)), by go_num, HP3.out, HGR.out.trans (grew_arena HG3.out) HCH.out.size, HCH.out.trans HC3.out (by intro x hx; exact HGR.out x (by simp [hx]))⟩
              case measure => simp [intOf]; omega
          · have hjc : j = cellsZ c := by omega
            have HQP : Hid (q < p) := Lib.hid (by
              rcases hjk with h | h
              · exact h
              · have := HG.out.k1; omega)
            subst hjc
            clear hjk
            go_wp2_with fail
            go_roundw
            case rel => exact ⟨q + 1, lo'', HQP.out, by go_num, HP.out, HGR.out, HCH.out⟩
            case measure => have := HQP.out; simp [intOf]; omega
    · have hqp : q < p := by
        rcases Nat.lt_or_ge q p with h | h
        · exact h
        · obtain rfl : q = p := by omega
          exact absurd HG.out.cls hc1
      have HQP := Lib.hid hqp
      clear hqp
      have hne : (A.cls q != c) = true := by simpa using hc1
      go_wp2_with fail
      go_quiet ((go_at_call 80; refine (Cells _ _).mono ?_; rintro e w' ⟨rfl, rfl⟩; exact ⟨rfl, _, rfl⟩))
      go_wp2_with fail
      go_roundw
      case rel => exact ⟨q + 1, lo', HQP.out, by go_num, HP.out.keep ((Chg.refl [] _).drewN _) (by simp), HGR.out, HCH.out.drewN _⟩
      case measure => have := HQP.out; simp [intOf]; omega

set_option maxHeartbeats 4000000 in
theorem AGapNo (h : ArenaAt w a A F) (c : Int) (hg : ∀ q, q < A.n → A.full c q) : Calls Tryz.prog 96 #[.pointer (some ⟨a, 0, none⟩), .int .i64 c] w fun e w' => ∃ F', e = .returned (.tuple #[.int .i64 0, .int .i64 0, .bool false]) ∧ ArenaAt w' a A F' ∧ GrewF w F F' ∧ Chg F w w' := by
  obtain ⟨pb, wb, sb, lo, rfl, hp⟩ := h
  have HG := Lib.hid hg
  have HP := Lib.hid hp
  have hfew : A.n ≤ 64 := hp.few
  have c0 := hp.top.cell 0
  simp [arenaCells, rowAt] at c0
  clear hg hp
  go_enter Tryz.func96, Tryz.ntmps96
  go_wp2_with fail
  go_step3
  go_wp2
  go_step3
  go_wp2
  clear c0
  go_loopw [15] (fun i wr => ∃ (q : Nat) (lo' : Option Nat), q ≤ A.n ∧ i = .int .i64 q ∧ AParts wr a A pb wb sb lo' ∧ GrewF w (a :: pb :: wb :: setF sb lo) (a :: pb :: wb :: setF sb lo') ∧ Chg (a :: pb :: wb :: setF sb lo) w wr) (fun i _ => A.n + 1 - (intOf i).toNat)
  case atStart => exact ⟨0, lo, by omega, rfl, HP.out, GrewF.refl _ _, Chg.refl _ _⟩
  case round =>
    obtain ⟨q, lo', hq, rfl, hp, hgr, hch⟩ := hrel
    clear HP
    by_cases hqn : q < A.n
    · have HQN := Lib.hid hqn
      obtain ⟨p0, p1⟩ := hp.page hqn
      have HP := Lib.hid (hp.keep ((Chg.refl [] wr).alloc (.cells #[.int .i64 (A.cls q), .int .i64 (A.cnt q)] 120)) (by simp))
      have HGR := Lib.hid hgr
      have HCH := Lib.hid (hch.alloc (.cells #[.int .i64 (A.cls q), .int .i64 (A.cnt q)] 120))
      clear hp hgr hch
      have hb0 : (0 : Int) ≤ (q : Int) := by omega
      by_cases hc1 : A.cls q = c
      · by_cases hc2 : A.cnt q = cellsZ c
        · rw [hc1] at p0 HP HCH
          rw [hc2] at p1 HP HCH
          go_wp2_with fail
          go_quiet ((go_at_call 80; refine (Cells _ _).mono ?_; rintro e w' ⟨rfl, rfl⟩; exact ⟨rfl, _, rfl⟩))
          go_wp2_with fail
          go_roundw
          case rel => exact ⟨q + 1, lo', HQN.out, by go_num, HP.out.keep ((Chg.refl [] _).drewN _) (by simp), HGR.out, HCH.out.drewN _⟩
          case measure => have := HQN.out; simp [intOf]; omega
        · rw [hc1] at p0 HP HCH
          have hb : (A.cnt q == cellsZ c) = false := by simpa using hc2
          have HALL : Hid (∀ j : Int, 0 ≤ j → j < cellsZ c → A.has (refZ q c j) = true) := Lib.hid (by
            intro j h0 h1
            rcases HG.out q hqn with h3 | ⟨_, h3⟩ | ⟨_, _, h3⟩
            · exact absurd hc1 h3
            · exact absurd h3 hc2
            · exact h3 j h0 h1)
          have hcn := cells_nonneg c
          clear hc1 hc2
          go_wp2_with fail
          go_quiet ((go_at_call 80; refine (Cells _ _).mono ?_; rintro e w' ⟨rfl, rfl⟩; exact ⟨rfl, _, rfl⟩))
          go_wp2_with (go_at_call 80; refine (Cells _ _).mono ?_; rintro e w' ⟨rfl, rfl⟩)
          have HP0 := Lib.hid (HP.out.keep ((Chg.refl [] _).drewN nq) (by simp))
          have HCH0 := Lib.hid (HCH.out.drewN nq)
          clear HP HCH hb p0 p1
          go_loopw [33] (fun i wx => ∃ (j : Int) (lo'' : Option Nat), 0 ≤ j ∧ j ≤ cellsZ c ∧ i = .int .i64 j ∧ AParts wx a A pb wb sb lo'' ∧ GrewF w (a :: pb :: wb :: setF sb lo) (a :: pb :: wb :: setF sb lo'') ∧ Chg (a :: pb :: wb :: setF sb lo) w wx) (fun i _ => (cellsZ c - intOf i).toNat)
          case atStart => exact ⟨0, lo', by omega, by omega, rfl, HP0.out, HGR.out, HCH0.out⟩
          case round =>
            obtain ⟨j, lo'', hj0, hj1, rfl, hp, hgr, hch⟩ := hrel
            clear HP0 HCH0 HGR
            have HP := Lib.hid hp
            have HGR := Lib.hid hgr
            have HCH := Lib.hid hch
            clear hp hgr hch
            by_cases hlt : j < cellsZ c
            · have hqm : (q : Int) ≤ 1000000 := by omega
              have HB := Lib.hid (HALL.out j hj0 hlt)
              go_wp2_with (first
                | (go_at_call 81; refine (ARef q c j hb0 hqm hj0 hlt _).mono ?_; rintro e w' ⟨rfl, rfl⟩)
                | (go_at_call 82; refine (AHasP HP.out _).mono ?_; rw [HB.out]; rintro e w' ⟨lo3, rfl, hp3, hg3, hc3⟩; have HP3 := Lib.hid hp3; have HG3 := Lib.hid hg3; have HC3 := Lib.hid hc3; clear hp3 hg3 hc3))
              go_roundw
              case rel => exact ⟨j + 1, lo3, by omega, by omega, by go_num, HP3.out, HGR.out.trans (grew_arena HG3.out) HCH.out.size, HCH.out.trans HC3.out (by intro x hx; exact HGR.out x (by simp [hx]))⟩
              case measure => simp [intOf]; omega
            · have hjc : j = cellsZ c := by omega
              subst hjc
              go_wp2_with fail
              go_roundw
              case rel => exact ⟨q + 1, lo'', HQN.out, by go_num, HP.out, HGR.out, HCH.out⟩
              case measure => have := HQN.out; simp [intOf]; omega
      · have hne : (A.cls q != c) = true := by simpa using hc1
        go_wp2_with fail
        go_quiet ((go_at_call 80; refine (Cells _ _).mono ?_; rintro e w' ⟨rfl, rfl⟩; exact ⟨rfl, _, rfl⟩))
        go_wp2_with fail
        go_roundw
        case rel => exact ⟨q + 1, lo', HQN.out, by go_num, HP.out.keep ((Chg.refl [] _).drewN _) (by simp), HGR.out, HCH.out.drewN _⟩
        case measure => have := HQN.out; simp [intOf]; omega
    · obtain rfl : q = A.n := by omega
      have HP := Lib.hid hp
      have HGR := Lib.hid hgr
      have HCH := Lib.hid hch
      clear hp hgr hch
      go_wp2_with fail
      rw [Exit.noGoto_ret]
      go_ret3
      exact ⟨_, rfl, ⟨pb, wb, sb, lo', rfl, HP.out⟩, HGR.out, HCH.out⟩

end
end Go.Proofs.YtbcabjpafeocgaaGreat
