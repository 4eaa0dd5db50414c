/- lockagelaw10.Pieces. -/
import Derived.Test.YthlijkpeafgenaaDoorT
import Derived.Test.YthlijkpeafgenaaDoorLU
set_option linter.unusedVariables false
set_option linter.unusedSimpArgs false
namespace Go.Proofs.YthlijkpeafgenaaDoor
open Go.RowKit Go.Lib
open Go.Proofs.YthlijkpeafgenaaDoorW.PrintWords

theorem bytes_app (a b : List UInt8) : (⟨a.toArray⟩ : ByteArray) ++ ⟨b.toArray⟩ = ⟨(a ++ b).toArray⟩ := by
  apply ByteArray.ext
  simp [ByteArray.append, ByteArray.data_append]
def strs (xs : List (List UInt8)) : List Value := xs.map str
theorem strs_len (xs : List (List UInt8)) : (strs xs).length = xs.length := by simp [strs]
theorem rd_row (W : World) (xs : List Value) (e : TypeId) (h : xs.length ≤ 1000) : Rd (W.alloc (.cells xs.toArray e)) (.slice (some ⟨W.heap.size, 0, none⟩) xs.length xs.length) xs :=
  (Ow.mk (base := W.heap.size) (off := 0) (Nat.le_refl _) (heap_alloc_new W (.cells xs.toArray e)) (Nat.le_refl _) (by omega) (by simp) (by simp)).rd
theorem Rd.seg {w : World} {A : Option Addr} {n c i : Nat} {xs : List (List UInt8)} (h : Rd w (.slice A n c) (strs xs)) (hi : i < xs.length) : ∃ ad, A = some ad ∧ w.cell? (ad.add i) = some (str xs[i]) := by
  have hl := h.len
  rw [strs_len] at hl
  obtain ⟨b, off, rfl, hb, hc⟩ := h.get (by omega)
  exact ⟨_, rfl, by rw [add_at]; exact hc i _ (by simp [strs, hi])⟩
theorem Rd.byte {w : World} {A : Option Addr} {n c i : Nat} {xs : List Nat} (h : Rd w (.slice A n c) (u8s xs)) (hi : i < xs.length) : ∃ ad, A = some ad ∧ w.cell? (ad.add i) = some (.int .u8 (xs[i] : Int)) := by
  have hl := h.len
  rw [u8s_len] at hl
  obtain ⟨b, off, rfl, hb, hc⟩ := h.get (by omega)
  exact ⟨_, rfl, by rw [add_at]; exact hc i _ (by rw [u8s_at hi])⟩
def pcs : List (List UInt8) := [[97], [34], [92], [92, 110], [92, 117], [48, 48, 101, 52], [92, 117, 100, 56, 51, 100], [92, 117, 100, 101, 48, 48], [92, 117, 68, 56, 48, 48], [195, 164], [240, 159, 152, 128], [237, 160, 128], [192], [128], [224, 128, 128], [244, 144, 128, 128], [10], [31], [127], [47], [92, 47], [92, 120], [92, 117, 102, 102, 102, 102], [92, 117, 48, 48, 48, 48], [48]]
theorem pcs_len : pcs.length = 25 := rfl
theorem pcs_at {k : Nat} (h : k < 25) : (pcs[k]'(by rw [pcs_len]; exact h)).length ≤ 6 := by
  have : ∀ k : Fin 25, (pcs[k.val]'(by rw [pcs_len]; exact k.isLt)).length ≤ 6 := by decide
  exact this ⟨k, h⟩

set_option maxRecDepth 100000 in
set_option maxHeartbeats 4000000 in
theorem pieces_any (A : Option Addr) (n c : Nat) (xs : List Nat) (w : World) (hr : Rd w (.slice A n c) (u8s xs)) (hb8 : ∀ x ∈ xs, x < 256) :
    Calls Tryd.prog 6 #[.slice A n c] w fun e w' => ∃ l : List UInt8, e = .returned (str l) ∧ l.length ≤ 72 ∧ Below w.heap.size w w' := by
  have hn := hr.len
  rw [u8s_len] at hn
  have HR := Lib.hid hr
  clear hr
  go_enter Tryd.func6, Tryd.ntmps6
  go_wp2_with fail
  have hW : Below w.heap.size w (w.alloc (.cells (strs pcs).toArray 9)) := (Below.refl _ _).alloc (Nat.le_refl _) _
  have hP := rd_row w (strs pcs) 9 (by decide)
  change Code.wp _ _ _ _ (w.alloc (.cells (strs pcs).toArray 9))
  obtain ⟨ps, hps, hpl, hpat⟩ : ∃ ps : List (List UInt8), pcs = ps ∧ ps.length = 25 ∧ ∀ k (h : k < ps.length), ps[k].length ≤ 6 := ⟨pcs, rfl, rfl, fun k h => pcs_at h⟩
  rw [hps] at hP hW ⊢
  have hP2 : Rd (w.alloc (.cells (strs ps).toArray 9)) (.slice (some ⟨w.heap.size, 0, none⟩) 25 25) (strs ps) := by
    have := hP
    rw [strs_len, hpl] at this
    exact this
  clear hP hps
  generalize w.alloc (.cells (strs ps).toArray 9) = W1 at *
  have HP := Lib.hid hP2
  have HPL := Lib.hid hpl
  have HPA := Lib.hid hpat
  clear hpl hpat hP2
  have HW := Lib.hid hW
  clear hW
  go_loopg [4, 5] 12 (fun gg s4 s5 wr => ∃ (l : List UInt8) (i : Nat), s4 = str l ∧ s5 = .int .i64 i ∧ i ≤ 12 ∧ 12 - i ≤ gg ∧ l.length ≤ 6 * i ∧ Below W1.heap.size W1 wr)
  case atStart => exact ⟨[], 0, rfl, rfl, by omega, by omega, by simp, Below.refl _ _⟩
  case round =>
    obtain ⟨l, i, rfl, rfl, hi, hg, hl, hb⟩ := hrel
    have HB := Lib.hid hb
    by_cases hin : i < xs.length
    · by_cases hi16 : i < 12
      · have h1 : (i : Int) < (n : Int) := by omega
        have h2 : (i : Int) < 12 := by omega
        obtain ⟨ad, rfl, hat⟩ := (HR.out.below (HW.out.trans (hb.mono HW.out.size))).byte hin
        obtain ⟨x, hx⟩ : ∃ x, xs[i] = x := ⟨_, rfl⟩
        rw [hx] at hat
        obtain ⟨r, hr⟩ : ∃ r, x % 25 = r := ⟨_, rfl⟩
        have hr23 : r < 25 := by omega
        have hr1 : (x : Int) % 25 = (r : Int) := by omega
        have hr2 : (x : Int).tmod 25 = (r : Int) := by rw [Int.tmod_eq_emod_of_nonneg (by omega)]; exact hr1
        have hr3 : (r : Int) < 25 := by omega
        obtain ⟨ad2, he, hat2⟩ := (HP.out.below hb).seg (i := r) (by rw [HPL.out]; exact hr23)
        injection he with he
        subst he
        rw [YthlijkpeafgenaaDoorW.PrintWords.add_plain] at hat2
        have hpl := HPA.out r (by rw [HPL.out]; exact hr23)
        have hx256 : x < 256 := hb8 x (by rw [← hx]; exact List.getElem_mem hin)
        have hw64 : wrap64 (x : Int) = (x : Int) := by unfold wrap64; omega
        have HX := Lib.hid hx
        clear hx hr hb
        generalize ps[r]'(by rw [HPL.out]; exact hr23) = pc at *
        have hcat : (⟨l.toArray⟩ : ByteArray) ++ ⟨pc.toArray⟩ = ⟨(l ++ pc).toArray⟩ := bytes_app l pc
        have HR1 := Lib.hid hr1
        clear hr1
        go_wp2_with fail
        go_roundg (12 - (i + 1))
        case measure => omega
        case rel => exact ⟨l ++ pc, i + 1, rfl, by simp [wrap64] <;> omega, by omega, by omega, by rw [List.length_append]; omega, HB.out⟩
      · have h1 : (i : Int) < (n : Int) := by omega
        have h2 : ¬ (i : Int) < 12 := by omega
        clear hb
        go_wp2_with fail
        go_ret
        exact ⟨l, rfl, by omega, HW.out.trans (HB.out.mono HW.out.size)⟩
    · have h1 : ¬ (i : Int) < (n : Int) := by omega
      clear hb
      go_wp2_with fail
      go_ret
      exact ⟨l, rfl, by omega, HW.out.trans (HB.out.mono HW.out.size)⟩
end Go.Proofs.YthlijkpeafgenaaDoor
