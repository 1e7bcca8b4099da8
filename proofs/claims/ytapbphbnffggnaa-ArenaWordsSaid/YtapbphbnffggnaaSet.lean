/-
  A set of numbers (layer 1): where it lies, and how its words are laid. Conditions: as each theorem says.
-/
import Derived.Test.YtapbphbnffggnaaSync
import Derived.Deep.RegionHeld3
import Derived.BigRegion
namespace Go.Proofs.Ytapbphbnffggnaa
set_option linter.unusedVariables false
set_option linter.unusedSimpArgs false
open Go.RowKit


theorem Blk.as_ {w : World} {g : Nat} {t : TypeId} {cs cs' : Array Value} (h : Blk w g t cs) (e : cs = cs') : Blk w g t cs' := e ▸ h

/-- How many words n numbers have. -/
def wordsOf (n : Int) : Nat := (n.toNat + 63) / 64
def nilRow : Value := .slice none 0 0
def setCells (n : Int) (done lock : Int) (l : Value) : Array Value := #[.int .i64 n, .int .u32 done, .int .i32 lock, .int .u32 0, l]
def rowAt (g m : Nat) : Value := .slice (some ⟨g, 0, none⟩) m m

/-- The set at block b: n numbers at most, its words W; lo: the block of its words, where they are laid. -/
def SetAt (w : World) (b : Nat) (n : Int) (W : Nat → Nat) : Option Nat → Prop
  | none => Blk w b 118 (setCells n 0 0 nilRow) ∧ W = fun _ => 0
  | some g => Blk w b 118 (setCells n 1 0 (rowAt g (wordsOf n))) ∧ Blk w g 128 (wordCells W (wordsOf n)) ∧ g ≠ b

section
variable {w : World} {b : Nat} {n : Int}

/-- What the closure does that words hands to Do. -/
theorem set_lay (pl : Addr) (hn0 : 0 ≤ n) (hn1 : n ≤ 100000) (hp : w.cell? pl = some (.pointer (some ⟨b, 0, none⟩))) (h : Blk w b 118 (setCells n 0 1 nilRow)) :
    Calls Try.prog 72 #[.pointer (some pl)] w fun e w' => e = .returned (.tuple #[]) ∧ Blk w' b 118 (setCells n 0 1 (rowAt w.heap.size (wordsOf n))) ∧ Blk w' w.heap.size 128 (wordCells (fun _ => 0) (wordsOf n)) ∧ Chg [b] w w' := by
  have HB := Lib.hid h
  have hlt := h.lt
  have c0 := h.cell 0
  have c4 := h.cell 4
  have f4 := h.frozen 4
  simp [setCells] at c0 c4
  obtain ⟨m, hm⟩ : ∃ m, wordsOf n = m := ⟨_, rfl⟩
  have hq : (n + 63) / 64 = (m : Int) := by rw [← hm]; unfold wordsOf; omega
  have hs : IntKind.i64.wrap (n + 63) = n + 63 := by rw [IntKind.wrap_i64]; omega
  have hmk := mk_words m (by omega)
  have hpl : pl.block < w.heap.size := by
    rcases Nat.lt_or_ge pl.block w.heap.size with hl | hg
    · exact hl
    · simp [World.cell?, Array.getElem?_eq_none hg] at hp
  have aA : ∀ o : Obj, (w.alloc o).cell? pl = some (.pointer (some ⟨b, 0, none⟩)) := fun o => (World.cell?_alloc_lt w o pl hpl).trans hp
  have a0 : ∀ o : Obj, (w.alloc o).cell? ⟨b, 0, none⟩ = some (.int .i64 n) := fun o => (World.cell?_alloc_past _ _ _ hlt).trans c0
  have a4 : ∀ o : Obj, (w.alloc o).cell? ⟨b, 4, none⟩ = some nilRow := fun o => (World.cell?_alloc_past _ _ _ hlt).trans c4
  have z4 : ∀ o : Obj, (w.alloc o).frozen? ⟨b, 4, none⟩ = false := fun o => (World.frozen?_alloc_past _ _ _ hlt).trans f4
  rw [hm]
  have hlt := Lib.hid hlt
  clear h hm hpl
  go_enter Try.func72, Try.ntmps72
  go_wp2_with fail
  go_region
  all_goals
    go_end0
    refine ⟨rfl, ?_, ?_, ?_⟩
    · apply Blk.as_
      · (repeat (first | with_reducible apply Blk.set_ | with_reducible apply Blk.drew | with_reducible apply Blk.drewN | with_reducible apply Blk.alloc))
        exact HB.out
      · simp [setCells, rowAt]
    · have e : (w.setCell ⟨b, 4, none⟩ (rowAt w.heap.size m)).heap.size = w.heap.size := by simp [World.setCell]
      have hw := Blk.new (w.setCell ⟨b, 4, none⟩ (rowAt w.heap.size m)) 128 (wordCells (fun _ => 0) m)
      rw [e] at hw
      repeat (with_reducible apply Blk.drew)
      exact hw
    · (repeat (first | with_reducible apply Chg.drew | with_reducible apply Chg.drewN | with_reducible apply Chg.alloc | (with_reducible apply Chg.setCell; rotate_left; exact .inl (by simp)) | exact Chg.refl _ _))

set_option maxRecDepth 100000 in
set_option maxHeartbeats 1600000 in
/-- Once's slow road, not yet done, the lock free. -/
theorem once_slow (pl : Addr) (hpb : ¬ b = pl.block) (hn0 : 0 ≤ n) (hn1 : n ≤ 100000) (hp : w.cell? pl = some (.pointer (some ⟨b, 0, none⟩))) (h : Blk w b 118 (setCells n 0 0 nilRow)) :
    Calls Try.prog 74 #[.pointer (some ⟨b, 1, none⟩), .func (.func 72) #[] #[.pointer (some pl)]] w fun e w' => e = .returned (.tuple #[]) ∧ SetAt w' b n (fun _ => 0) (some w.heap.size) ∧ Chg [b] w w' := by
  have HB := Lib.hid h
  have hlt := h.lt
  have c2 := h.cell 2
  have f2 := h.frozen 2
  simp [setCells] at c2
  have h1 : Blk (w.setCell ⟨b, 2, none⟩ (.int .i32 1)) b 118 (setCells n 0 1 nilRow) := (h.set_ 2 _).as_ (by simp [setCells])
  have hp1 : (w.setCell ⟨b, 2, none⟩ (.int .i32 1)).cell? pl = some (.pointer (some ⟨b, 0, none⟩)) := (World.cell?_setCell_other _ ⟨b, 2, none⟩ pl _ (fun h => hpb (by rw [← h]))).trans hp
  have hc1 : Chg [b] w (w.setCell ⟨b, 2, none⟩ (.int .i32 1)) := (Chg.refl _ _).setCell (.inl (by simp)) _
  have hsz : (w.setCell ⟨b, 2, none⟩ (.int .i32 1)).heap.size = w.heap.size := by simp [World.setCell]
  have hd0 := h1.cell 1
  simp [setCells] at hd0
  have hl := run_call_load (P := Try.prog) Try.func75 (by kernel_rfl) (by kernel_rfl) (by kernel_rfl) .u32 (by kernel_rfl) (w := w.setCell ⟨b, 2, none⟩ (.int .i32 1)) (a := ⟨b, 1, none⟩) (x := 0) hd0
  have hnot : ∀ (x : Bool) (w : World), (Op.unary .not (.bool x)).run Try.prog w = .ok (.bool (!x)) w := fun _ _ => rfl
  have HC1 := Lib.hid hc1
  have H1 := Lib.hid h1
  have HP1 := Lib.hid hp1
  have HSZ := Lib.hid hsz
  clear h hlt hc1 h1 hp1 hsz hp hd0
  go_enter_defers Try.func74, Try.ntmps74
  go_wp2_with (go_at_call 76; refine (lock_free ⟨b, 2, none⟩ _ c2 f2).mono ?_; rintro e w' ⟨rfl, rfl⟩)
  clear c2 f2
  go_wp2_with (first | (go_at_call 72; refine (set_lay pl hn0 hn1 HP1.out H1.out).mono ?_; rintro e w2 ⟨rfl, hb2, hg2, hc2⟩; have HB2 := Lib.hid hb2; have HG2 := Lib.hid hg2; have HC2 := Lib.hid hc2; clear hb2 hg2 hc2) | (go_at_call 73; go_in))
  have HNE := Lib.hid (show w.heap.size ≠ b by have := HB.out.lt; omega)
  have hg := HG2.out
  rw [HSZ.out] at hg
  have hb2 := HB2.out
  rw [HSZ.out] at hb2
  have k1 := hb2.cell 1
  have z1 := hb2.frozen 1
  simp [setCells] at k1
  refine leaves_cons (f := 78) (args := #[.pointer (some ⟨b, 1, none⟩), .bool true]) (by simp) (by simp [go_sem]) ?_
  refine (store_deferred ⟨b, 1, none⟩ (.int .u32 0) .returning _ k1 z1).mono ?_
  rintro e u' w'' ⟨rfl, rfl, rfl⟩
  have hb3 := hb2.drew.set_ 1 (.int .u32 1)
  have k2 := hb3.cell 2
  have z2 := hb3.frozen 2
  simp [setCells] at k2
  refine leaves_cons (f := 77) (args := #[.pointer (some ⟨b, 2, none⟩)]) (by simp [settle]) (by simp [go_sem]) ?_
  refine (unlock_deferred ⟨b, 2, none⟩ _ _ k2 z2).mono ?_
  rintro e u' w'' ⟨rfl, rfl, rfl⟩
  have hb4 := hb3.set_ 2 (.int .i32 0)
  have hg4 := (hg.drew.far (p := ⟨b, 1, none⟩) HNE.out (.int .u32 1)).far (p := ⟨b, 2, none⟩) HNE.out (.int .i32 0)
  have hc4 := (((HC1.out.trans HC2.out (by simp)).drew.setCell (p := ⟨b, 1, none⟩) (.inl (by simp)) (.int .u32 1)).setCell (p := ⟨b, 2, none⟩) (.inl (by simp)) (.int .i32 0))
  have fin : SetAt _ b n (fun _ => 0) (some w.heap.size) := ⟨hb4.as_ (by simp [setCells, rowAt]), hg4, HNE.out⟩
  have HF := Lib.hid fin
  have HC4 := Lib.hid hc4
  clear fin hc4 hg4 hb4 hb3 hb2 k1 z1 k2 z2 hg
  simp [Leaves, settle, results, Try.results74]
  exact ⟨HF.out, HC4.out⟩

theorem once_first (pl : Addr) (hpb : ¬ b = pl.block) (hn0 : 0 ≤ n) (hn1 : n ≤ 100000) (hp : w.cell? pl = some (.pointer (some ⟨b, 0, none⟩))) (h : Blk w b 118 (setCells n 0 0 nilRow)) :
    Calls Try.prog 71 #[.pointer (some ⟨b, 1, none⟩), .func (.func 72) #[] #[.pointer (some pl)]] w fun e w' => e = .returned (.tuple #[]) ∧ SetAt w' b n (fun _ => 0) (some w.heap.size) ∧ Chg [b] w w' := by
  have HP := Lib.hid hp
  have HB := Lib.hid h
  have h0 := h.cell 1
  simp [setCells] at h0
  have hl := run_call_load (P := Try.prog) Try.func75 (by kernel_rfl) (by kernel_rfl) (by kernel_rfl) .u32 (by kernel_rfl) h0
  have hnot : ∀ (x : Bool) (w : World), (Op.unary .not (.bool x)).run Try.prog w = .ok (.bool (!x)) w := fun _ _ => rfl
  clear h hp
  go_enter Try.func71, Try.ntmps71
  go_wp2_with (first | (go_at_call 74; refine (once_slow pl hpb hn0 hn1 HP.out HB.out).mono ?_; rintro e w' ⟨rfl, hs, hc⟩) | (go_at_call 73; go_in))
  go_end0
  exact ⟨rfl, hs, hc⟩

theorem once_done (a : Addr) (fv : Value) (h0 : w.cell? a = some (.int .u32 1)) :
    Calls Try.prog 71 #[.pointer (some a), fv] w fun e w' => e = .returned (.tuple #[]) ∧ w' = w := by
  have hl := run_call_load (P := Try.prog) Try.func75 (by kernel_rfl) (by kernel_rfl) (by kernel_rfl) .u32 (by kernel_rfl) h0
  have hnot : ∀ (x : Bool) (w : World), (Op.unary .not (.bool x)).run Try.prog w = .ok (.bool (!x)) w := fun _ _ => rfl
  go_enter Try.func71, Try.ntmps71
  go_wp2
  go_end0
  exact ⟨rfl, rfl⟩

/-- words: they are laid behind it. -/
theorem SWords {W : Nat → Nat} {lo : Option Nat} (h : SetAt w b n W lo) (hn0 : 0 ≤ n) (hn1 : n ≤ 100000) :
    Calls Try.prog 67 #[.pointer (some ⟨b, 0, none⟩)] w fun e w' => ∃ g, e = .returned (rowAt g (wordsOf n)) ∧ SetAt w' b n W (some g) ∧ (lo = some g ∨ w.heap.size ≤ g) ∧ Chg [b] w w' := by
  have hmf : ∀ (fn : Fn) (first cap : Array Value) (w : World), (Instr.makeFunc fn first cap).run Try.prog w = .ok (.func fn first cap) w := fun _ _ _ _ => rfl
  cases lo with
  | none =>
    obtain ⟨h, rfl⟩ := h
    have hlt := h.lt
    have HB := Lib.hid (h.alloc (.cells #[.pointer (some ⟨b, 0, none⟩)] 86))
    have HNE := Lib.hid (show ¬ b = w.heap.size by omega)
    have HP : Hid ((w.alloc (.cells #[.pointer (some ⟨b, 0, none⟩)] 86)).cell? ⟨w.heap.size, 0, none⟩ = some (.pointer (some ⟨b, 0, none⟩))) := Lib.hid (by simp)
    have HC0 := Lib.hid ((Chg.refl [b] w).alloc (.cells #[.pointer (some ⟨b, 0, none⟩)] 86))
    have HNB := Lib.hid (Blk.new w 86 #[.pointer (some ⟨b, 0, none⟩)])
    clear h hlt
    go_enter Try.func67, Try.ntmps67
    go_wp2_with fail
    refine (once_first ⟨w.heap.size, 0, none⟩ HNE.out hn0 hn1 HP.out HB.out).mono ?_
    rintro e w1 ⟨rfl, hs, hc⟩
    have hp1 := (hc.blk HNB.out (by simp; exact fun h => HNE.out h.symm)).cell 0
    simp at hp1
    have c4 := hs.1.cell 4
    simp [setCells] at c4
    have HS := Lib.hid hs
    have HC := Lib.hid hc
    have HSZ := Lib.hid (show w.heap.size ≤ (w.alloc (.cells #[.pointer (some ⟨b, 0, none⟩)] 86)).heap.size by simp)
    clear hs hc HB HP
    go_wp2_with fail
    go_ret
    exact ⟨w.heap.size + 1, rfl, by simpa using HS.out, .inr (by omega), HC0.out.trans HC.out (by simp)⟩
  | some g =>
    have HS := Lib.hid h
    have h1 := h.1.cell 1
    simp [setCells] at h1
    have hlt := h.1.lt
    have a1 : (w.alloc (.cells #[.pointer (some ⟨b, 0, none⟩)] 86)).cell? ⟨b, 1, none⟩ = some (.int .u32 1) := (World.cell?_alloc_past _ _ _ hlt).trans h1
    have h4 := h.1.cell 4
    simp [setCells] at h4
    have a4 : (w.alloc (.cells #[.pointer (some ⟨b, 0, none⟩)] 86)).cell? ⟨b, 4, none⟩ = some (rowAt g (wordsOf n)) := (World.cell?_alloc_past _ _ _ hlt).trans h4
    have A1 := Lib.hid a1
    have HS2 : Hid (SetAt (w.alloc (.cells #[.pointer (some ⟨b, 0, none⟩)] 86)) b n W (some g)) := Lib.hid ⟨h.1.alloc _, h.2.1.alloc _, h.2.2⟩
    have HC0 := Lib.hid ((Chg.refl [b] w).alloc (.cells #[.pointer (some ⟨b, 0, none⟩)] 86))
    clear h h1 hlt h4 a1
    go_enter Try.func67, Try.ntmps67
    go_wp2_with fail
    refine (once_done ⟨b, 1, none⟩ _ A1.out).mono ?_
    rintro e w1 ⟨rfl, rfl⟩
    go_wp2_with fail
    go_ret
    exact ⟨g, rfl, HS2.out, .inl rfl, HC0.out⟩
end
end Go.Proofs.Ytapbphbnffggnaa
