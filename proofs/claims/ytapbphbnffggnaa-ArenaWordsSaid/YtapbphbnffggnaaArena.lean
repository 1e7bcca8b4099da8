/-
  The arena (layer 3): where it lies, as plain data, and contracts of the methods that only look. Conditions: at most 64 pages.
-/
import Derived.Test.YtapbphbnffggnaaSetIs
import Derived.Test.YtapbphbnffggnaaSizeCore
namespace Go.Proofs.Ytapbphbnffggnaa
set_option linter.unusedVariables false
set_option linter.unusedSimpArgs false
open Go.RowKit

/-- n pages; a page's class and how many of its cells are taken; words; the taken Refs; how many pages are free. -/
structure AR where
  n : Nat
  cls : Nat → Int
  cnt : Nat → Int
  wd : Nat → Int
  tk : Nat → Bool
  free : Int
  ids : Nat × Nat × Nat

def pageCells (c k : Nat → Int) (n : Nat) : Array Value := Array.ofFn (n := n * 2) fun i => if i.val % 2 = 0 then .int .i64 (c (i.val / 2)) else .int .i64 (k (i.val / 2))
theorem pageCells_cls (c k : Nat → Int) (n p : Nat) (h : p < n) : (pageCells c k n)[p * 2]? = some (.int .i64 (c p)) := by
  have h1 : p * 2 < n * 2 := by omega
  simp [pageCells, h1]
theorem pageCells_cnt (c k : Nat → Int) (n p : Nat) (h : p < n) : (pageCells c k n)[p * 2 + 1]? = some (.int .i64 (k p)) := by
  have h1 : p * 2 + 1 < n * 2 := by omega
  have h2 : (p * 2 + 1) / 2 = p := by omega
  simp [pageCells, h1, h2]
def updN (f : Nat → Int) (p : Nat) (v : Int) : Nat → Int := fun i => if i = p then v else f i
theorem pageCells_setCls (c k : Nat → Int) (n p : Nat) (v : Int) : (pageCells c k n).setIfInBounds (p * 2) (.int .i64 v) = pageCells (updN c p v) k n := by
  apply Array.ext_getElem?
  intro i
  rw [Array.getElem?_setIfInBounds]
  by_cases hi : i < n * 2
  · have hs : i < (pageCells c k n).size := by simpa [pageCells] using hi
    by_cases h : p * 2 = i
    · subst h
      simp [hs, pageCells, hi, updN]
    · simp [h, pageCells, hi, updN]
      split
      · rename_i he
        have : ¬ i / 2 = p := by omega
        simp [this]
      · rfl
  · have h1 : ∀ c, (pageCells c k n)[i]? = none := by intro c; simp [pageCells]; omega
    rw [h1, h1]
    have : ¬ i < (pageCells c k n).size := by simpa [pageCells] using hi
    split <;> simp_all
theorem pageCells_setCnt (c k : Nat → Int) (n p : Nat) (v : Int) : (pageCells c k n).setIfInBounds (p * 2 + 1) (.int .i64 v) = pageCells c (updN k p v) n := by
  apply Array.ext_getElem?
  intro i
  rw [Array.getElem?_setIfInBounds]
  by_cases hi : i < n * 2
  · have hs : i < (pageCells c k n).size := by simpa [pageCells] using hi
    by_cases h : p * 2 + 1 = i
    · subst h
      have h2 : (p * 2 + 1) / 2 = p := by omega
      simp [hs, pageCells, hi, updN, h2]
    · simp [h, pageCells, hi, updN]
      split
      · rfl
      · rename_i he
        have : ¬ i / 2 = p := by omega
        simp [this]
  · have h1 : ∀ k, (pageCells c k n)[i]? = none := by intro k; simp [pageCells]; omega
    rw [h1, h1]
    have : ¬ i < (pageCells c k n).size := by simpa [pageCells] using hi
    split <;> simp_all

def intCells (f : Nat → Int) (n : Nat) : Array Value := Array.ofFn (n := n) fun i => .int .i64 (f i.val)
theorem intCells_get (f : Nat → Int) (n k : Nat) (h : k < n) : (intCells f n)[k]? = some (.int .i64 (f k)) := by simp [intCells, h]

def AR.size (A : AR) : Int := ((A.n * 32 + 1 : Nat) : Int)
def arenaCells (A : AR) (pb wb sb : Nat) : Array Value := #[rowAt pb A.n, rowAt wb (A.n * 32), .pointer (some ⟨sb, 0, none⟩), .int .i64 A.free]

structure AParts (w : World) (a : Nat) (A : AR) (pb wb sb : Nat) (lo : Option Nat) : Prop where
  top : Blk w a 88 (arenaCells A pb wb sb)
  pages : Blk w pb 90 (pageCells A.cls A.cnt A.n)
  words : Blk w wb 3 (intCells A.wd (A.n * 32))
  set_ : SetIs w sb A.size A.tk lo
  ap : a ≠ pb
  aw : a ≠ wb
  pw : pb ≠ wb
  sa : a ∉ setF sb lo
  sp : pb ∉ setF sb lo
  sw : wb ∉ setF sb lo
  few : A.n ≤ 64
  ids : A.ids = (pb, wb, sb)

/-- The arena at block a; F: the blocks that it owns. -/
def ArenaAt (w : World) (a : Nat) (A : AR) (F : List Nat) : Prop := ∃ pb wb sb lo, F = a :: pb :: wb :: setF sb lo ∧ AParts w a A pb wb sb lo

theorem AParts.keep {w w' : World} {a : Nat} {A : AR} {pb wb sb : Nat} {lo : Option Nat} {F : List Nat} (h : AParts w a A pb wb sb lo) (hc : Chg F w w') (hF : ∀ x ∈ a :: pb :: wb :: setF sb lo, x ∉ F) : AParts w' a A pb wb sb lo :=
  ⟨hc.blk h.top (hF a (by simp)), hc.blk h.pages (hF pb (by simp)), hc.blk h.words (hF wb (by simp)), h.set_.keep hc (fun x hx => hF x (by simp [hx])), h.ap, h.aw, h.pw, h.sa, h.sp, h.sw, h.few, h.ids⟩
theorem ArenaAt.keep {w w' : World} {a : Nat} {A : AR} {F G : List Nat} (h : ArenaAt w a A F) (hc : Chg G w w') (hF : ∀ x ∈ F, x ∉ G) : ArenaAt w' a A F := by
  obtain ⟨pb, wb, sb, lo, rfl, hp⟩ := h
  exact ⟨pb, wb, sb, lo, rfl, hp.keep hc hF⟩
theorem ArenaAt.lt {w : World} {a : Nat} {A : AR} {F : List Nat} (h : ArenaAt w a A F) : ∀ x ∈ F, x < w.heap.size := by
  obtain ⟨pb, wb, sb, lo, rfl, hp⟩ := h
  intro x hx
  simp at hx
  rcases hx with rfl | rfl | rfl | hx
  · exact hp.top.lt
  · exact hp.pages.lt
  · exact hp.words.lt
  · exact hp.set_.lt x hx
theorem GrewF.refl (w : World) (F : List Nat) : GrewF w F F := fun _ h => .inl h
theorem GrewF.trans {w w' : World} {F F' F'' : List Nat} (h : GrewF w F F') (h' : GrewF w' F' F'') (hs : w.heap.size ≤ w'.heap.size) : GrewF w F F'' := fun x hx => by
  rcases h' x hx with h1 | h1
  · exact h x h1
  · exact .inr (by omega)

/-- A call of the arena's set. -/
theorem AParts.set {w w' : World} {a : Nat} {A : AR} {pb wb sb : Nat} {lo lo' : Option Nat} {S : Nat → Bool} (h : AParts w a A pb wb sb lo) (hs : SetIs w' sb A.size S lo') (hg : GrewF w (setF sb lo) (setF sb lo')) (hc : Chg (setF sb lo) w w') :
    AParts w' a { A with tk := S } pb wb sb lo' := by
  have fresh : ∀ x, x < w.heap.size → x ∉ setF sb lo → x ∉ setF sb lo' := fun x hx hn hm => by
    rcases hg x hm with h1 | h1
    · exact hn h1
    · omega
  exact ⟨hc.blk h.top h.sa, hc.blk h.pages h.sp, hc.blk h.words h.sw, hs, h.ap, h.aw, h.pw, fresh a h.top.lt h.sa, fresh pb h.pages.lt h.sp, fresh wb h.words.lt h.sw, h.few, h.ids⟩

section
variable {w : World} {a : Nat} {A : AR} {F : List Nat}

def AR.has (A : AR) (r : Int) : Bool := decide (0 ≤ r) && decide (r < A.size) && A.tk r.toNat

/-- What the arena owns behind a call of its set. -/
theorem grew_arena {pb wb sb : Nat} {lo lo' : Option Nat} (hg : GrewF w (setF sb lo) (setF sb lo')) : GrewF w (a :: pb :: wb :: setF sb lo) (a :: pb :: wb :: setF sb lo') := by
  intro x hx
  simp at hx
  rcases hx with rfl | rfl | rfl | hx
  · simp
  · simp
  · simp
  · rcases hg x hx with h1 | h1
    · simp [h1]
    · exact .inr h1

theorem AHasP {pb wb sb : Nat} {lo : Option Nat} (hp : AParts w a A pb wb sb lo) (r : Int) : Calls Try.prog 36 #[.pointer (some ⟨a, 0, none⟩), .int .i64 r] w fun e w' => ∃ lo', e = .returned (.bool (A.has r)) ∧ AParts w' a A pb wb sb lo' ∧ GrewF w (setF sb lo) (setF sb lo') ∧ Chg (setF sb lo) w w' := by
  have HP := Lib.hid hp
  have c2 := hp.top.cell 2
  simp [arenaCells] at c2
  clear hp
  go_enter Try.func36, Try.ntmps36
  go_wp2_with fail
  by_cases hin : 0 ≤ r ∧ r < A.size
  · obtain ⟨I, rfl⟩ := Int.eq_ofNat_of_zero_le hin.1
    refine (SHasIn HP.out.set_ (by have := HP.out.few; unfold AR.size; omega) I hin.2).mono ?_
    rintro e w' ⟨lo', rfl, hs, hg, hc⟩
    have HF := Lib.hid (HP.out.set hs hg hc)
    have HG := Lib.hid hg
    have HC := Lib.hid hc
    have HIN := Lib.hid hin
    clear hs hg hc hin
    go_wp2_with fail
    go_ret
    refine ⟨_, ?_, HF.out, HG.out, HC.out⟩
    have h1 := HIN.out.1
    have h2 := HIN.out.2
    unfold AR.has
    simp [h1, h2]
  · refine (SHasOut HP.out.set_ r (by omega)).mono ?_
    rintro e w' ⟨rfl, rfl⟩
    have HIN := Lib.hid hin
    clear hin
    go_wp2_with fail
    go_ret
    refine ⟨_, ?_, HP.out, GrewF.refl _ _, Chg.refl _ _⟩
    have h1 := HIN.out
    unfold AR.has
    simp
    intro h2 h3
    exact absurd ⟨h2, h3⟩ h1

theorem AHas (h : ArenaAt w a A F) (r : Int) : Calls Try.prog 36 #[.pointer (some ⟨a, 0, none⟩), .int .i64 r] w fun e w' => ∃ F', e = .returned (.bool (A.has r)) ∧ ArenaAt w' a A F' ∧ GrewF w F F' ∧ Chg F w w' := by
  obtain ⟨pb, wb, sb, lo, rfl, hp⟩ := h
  refine (AHasP hp r).mono ?_
  rintro e w' ⟨lo', rfl, hp', hg, hc⟩
  exact ⟨_, rfl, ⟨pb, wb, sb, lo', rfl, hp'⟩, grew_arena hg, hc.mono (by intro x hx; simp [hx])⟩

end
end Go.Proofs.Ytapbphbnffggnaa
