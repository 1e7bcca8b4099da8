/-
  What a take writes (layer 3). Conditions: as each theorem says.
-/
import Derived.Test.YtapbphbnffggnaaRoom
import Derived.Lib.SliceRun
import Derived.Test.YtapbphbnffggnaaStage
namespace Go.Proofs.Ytapbphbnffggnaa
set_option linter.unusedVariables false
set_option linter.unusedSimpArgs false
open Go.RowKit

section
variable {w : World} {a : Nat} {A : AR} {pb wb sb : Nat} {lo : Option Nat}

theorem AParts.setCnt (h : AParts w a A pb wb sb lo) (p : Nat) (v : Int) : AParts (w.setCell ⟨pb, p * 2 + 1, none⟩ (.int .i64 v)) a { A with cnt := updN A.cnt p v } pb wb sb lo := by
  have hc : Chg [pb] w (w.setCell ⟨pb, p * 2 + 1, none⟩ (.int .i64 v)) := (Chg.refl _ _).setCell (.inl (by simp)) _
  refine ⟨hc.blk h.top (by simp; exact h.ap), ?_, hc.blk h.words (by simp; exact h.pw.symm), h.set_.keep hc (fun x hx => by simp; rintro rfl; exact h.sp hx), h.ap, h.aw, h.pw, h.sa, h.sp, h.sw, h.few, h.ids⟩
  rw [← pageCells_setCnt]
  exact h.pages.set_ _ _
theorem AParts.setCls (h : AParts w a A pb wb sb lo) (p : Nat) (v : Int) : AParts (w.setCell ⟨pb, p * 2, none⟩ (.int .i64 v)) a { A with cls := updN A.cls p v } pb wb sb lo := by
  have hc : Chg [pb] w (w.setCell ⟨pb, p * 2, none⟩ (.int .i64 v)) := (Chg.refl _ _).setCell (.inl (by simp)) _
  refine ⟨hc.blk h.top (by simp; exact h.ap), ?_, hc.blk h.words (by simp; exact h.pw.symm), h.set_.keep hc (fun x hx => by simp; rintro rfl; exact h.sp hx), h.ap, h.aw, h.pw, h.sa, h.sp, h.sw, h.few, h.ids⟩
  rw [← pageCells_setCls]
  exact h.pages.set_ _ _
theorem AParts.setFree (h : AParts w a A pb wb sb lo) (v : Int) : AParts (w.setCell ⟨a, 3, none⟩ (.int .i64 v)) a { A with free := v } pb wb sb lo := by
  have hc : Chg [a] w (w.setCell ⟨a, 3, none⟩ (.int .i64 v)) := (Chg.refl _ _).setCell (.inl (by simp)) _
  refine ⟨?_, hc.blk h.pages (by simp; exact h.ap.symm), hc.blk h.words (by simp; exact h.aw.symm), h.set_.keep hc (fun x hx => by simp; rintro rfl; exact h.sa hx), h.ap, h.aw, h.pw, h.sa, h.sp, h.sw, h.few, h.ids⟩
  exact (h.top.set_ 3 _).as_ (by simp [arenaCells])

/-- n words from o on are noughts. -/
def zeroed (f : Nat → Int) (o n : Nat) : Nat → Int := fun i => if o ≤ i ∧ i < o + n then 0 else f i
theorem intCells_set (f : Nat → Int) (m k : Nat) (v : Int) : (intCells f m).setIfInBounds k (.int .i64 v) = intCells (updN f k v) m := by
  apply Array.ext_getElem?
  intro i
  rw [Array.getElem?_setIfInBounds]
  by_cases hi : i < m
  · by_cases h : k = i
    · subst h
      simp [intCells, hi, updN]
    · have h' : ¬ i = k := fun e => h e.symm
      simp [intCells, hi, updN, h, h']
  · have h1 : ∀ f, (intCells f m)[i]? = none := by intro f; simp [intCells]; omega
    rw [h1, h1]
    have : ¬ i < (intCells f m).size := by simpa [intCells] using hi
    split <;> simp_all
theorem blk_zeroed {t : TypeId} {m : Nat} : ∀ (n : Nat) (o : Nat) (f : Nat → Int) (w : World), Blk w wb t (intCells f m) → Blk (w.setCells wb o (List.replicate n (.int .i64 0))) wb t (intCells (zeroed f o n) m)
  | 0, o, f, w, h => by
    have e : zeroed f o 0 = f := by funext i; unfold zeroed; rw [if_neg (by omega)]
    rw [e]; exact h
  | n + 1, o, f, w, h => by
    have h1 := h.set_ o (.int .i64 0)
    rw [intCells_set] at h1
    have h2 := blk_zeroed n (o + 1) _ _ h1
    have e : zeroed (updN f o 0) (o + 1) n = zeroed f o (n + 1) := by
      funext i
      unfold zeroed updN
      by_cases h3 : o + 1 ≤ i ∧ i < o + 1 + n
      · rw [if_pos h3, if_pos (by omega)]
      · rw [if_neg h3]
        by_cases h4 : i = o
        · rw [if_pos h4, if_pos (by omega)]
        · rw [if_neg h4, if_neg (by omega)]
    rw [e] at h2
    exact h2
theorem chg_setCells {F : List Nat} {w0 : World} (b : Nat) (hb : b ∈ F ∨ w0.heap.size ≤ b) : ∀ (vs : List Value) (o : Nat) (w : World), Chg F w0 w → Chg F w0 (w.setCells b o vs)
  | [], _, _, h => h
  | _ :: vs, o, _, h => chg_setCells b hb vs (o + 1) _ (h.setCell hb _)
theorem AParts.clear (h : AParts w a A pb wb sb lo) (o n : Nat) : AParts (w.setCells wb o (List.replicate n (.int .i64 0))) a { A with wd := zeroed A.wd o n } pb wb sb lo := by
  have hc : Chg [wb] w (w.setCells wb o (List.replicate n (.int .i64 0))) := chg_setCells wb (by simp) _ _ _ (Chg.refl _ _)
  exact ⟨hc.blk h.top (by simp; exact h.aw), hc.blk h.pages (by simp; exact h.pw), blk_zeroed n o _ _ h.words, h.set_.keep hc (fun x hx => by simp; rintro rfl; exact h.sw hx), h.ap, h.aw, h.pw, h.sa, h.sp, h.sw, h.few, h.ids⟩

theorem clear_words (n o k : Nat) (cap : Nat) (hn : 0 < n) (hk : o + n ≤ k) (f : Nat → Int) (w : World) (ty : TypeId) (h : Blk w wb 3 (intCells f k)) :
    (Builtin.clear_ #[50] ty #[.slice (some ⟨wb, o, none⟩) n cap]).run Try.prog w = .ok (.tuple #[]) (w.setCells wb o (List.replicate n (.int .i64 0))) :=
  Lib.run_clear_slice w 50 3 ty (.int .i64 0) Try.underlying50 (fun w => by kernel_rfl) rfl rfl wb o n cap hn
    (fun j hj => by rw [h.cell, intCells_get _ _ _ (by omega)]; rfl) (fun j hj => h.frozen _)

/-- Where a taken cell is taken: the page p, of the class c; its Ref is r; new: the page was free. -/
def AR.put (A : AR) (new : Bool) (c : Int) (p r : Nat) : AR :=
  { n := A.n
    cls := if new then updN A.cls p c else A.cls
    cnt := updN A.cnt p (if new then 1 else A.cnt p + 1)
    wd := zeroed A.wd (r - 1) (wordsZ c).toNat
    tk := fun j => A.tk j || decide (j = r)
    free := if new then A.free - 1 else A.free
    ids := A.ids }
end
end Go.Proofs.Ytapbphbnffggnaa
