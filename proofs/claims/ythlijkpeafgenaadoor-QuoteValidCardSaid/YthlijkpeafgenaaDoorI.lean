/- quote.unit. -/
import Derived.Test.YthlijkpeafgenaaDoorH
set_option linter.unusedVariables false
set_option linter.unusedSimpArgs false
namespace Go.Proofs.YthlijkpeafgenaaDoor
open Go.RowKit
open Go.Proofs.YthlijkpeafgenaaDoorW.PrintWords

theorem parse4 (a b c d : Nat) : parseS [a, b, c, d] 16 = (0, 1) ∨ ∃ n : Nat, n < 65536 ∧ parseS [a, b, c, d] 16 = ((n : Int), 0) ∧ (n : Int) = ((digI a 16 * 16 + digI b 16) * 16 + digI c 16) * 16 + digI d 16 := by
  rcases digI_cases a 16 with ha | ⟨ha0, ha1⟩
  · exact .inl (parseS_bad (by simp [badB, ha]))
  rcases digI_cases b 16 with hb | ⟨hb0, hb1⟩
  · exact .inl (parseS_bad (by simp [badB, hb]))
  rcases digI_cases c 16 with hc | ⟨hc0, hc1⟩
  · exact .inl (parseS_bad (by simp [badB, hc]))
  rcases digI_cases d 16 with hd | ⟨hd0, hd1⟩
  · exact .inl (parseS_bad (by simp [badB, hd]))
  refine .inr ⟨(((digI a 16 * 16 + digI b 16) * 16 + digI c 16) * 16 + digI d 16).toNat, by omega, ?_, by omega⟩
  rw [parseS_good (by simp) (.inr rfl) (by simp [badB]; omega)]
  have f1 : Fit (digI a 16) := ⟨by omega, by omega⟩
  have f2 : Fit (digI a 16 * 16 + digI b 16) := ⟨by omega, by omega⟩
  have f3 : Fit ((digI a 16 * 16 + digI b 16) * 16 + digI c 16) := ⟨by omega, by omega⟩
  have f4 : Fit (((digI a 16 * 16 + digI b 16) * 16 + digI c 16) * 16 + digI d 16) := ⟨by omega, by omega⟩
  simp [stepP, f1, f2, f3, f4]
  omega
/-- the number that stands behind a u; below 0: there is none -/
def unitQ : List UInt8 → Int
  | u :: a :: b :: c :: d :: _ => if u = 117 then (if (parseS [a.toNat, b.toNat, c.toNat, d.toNat] 16).2 = 0 then (parseS [a.toNat, b.toNat, c.toNat, d.toNat] 16).1 else -1) else -1
  | _ => -1
theorem unitQ_short {l : List UInt8} (h : l.length < 5) : unitQ l = -1 := by
  unfold unitQ
  split
  · simp at h; omega
  · rfl
theorem len5 {l : List UInt8} (h : ¬ l.length < 5) : ∃ u a b c d r, l = u :: a :: b :: c :: d :: r := by
  match l, h with
  | [], h => simp at h
  | [_], h => simp at h
  | [_, _], h => simp at h
  | [_, _, _], h => simp at h
  | [_, _, _, _], h => simp at h
  | u :: a :: b :: c :: d :: r, _ => exact ⟨u, a, b, c, d, r, rfl⟩
theorem unitQ_lt (l : List UInt8) : -1 ≤ unitQ l ∧ unitQ l < 65536 := by
  by_cases h : l.length < 5
  · rw [unitQ_short h]; omega
  · obtain ⟨u, a, b, c, d, r, rfl⟩ := len5 h
    unfold unitQ
    simp only
    split
    · rcases parse4 a.toNat b.toNat c.toNat d.toNat with h1 | ⟨n, hn, h1, _⟩
      · rw [h1]; simp
      · rw [h1]; simp; omega
    · omega

set_option maxHeartbeats 2000000 in
theorem unit_any (l : List UInt8) (w : World) (hl : l.length ≤ 1000000) : Calls Tryd.prog 27 #[str l] w fun e w' => e = .returned (.int .i32 (unitQ l)) ∧ w' = w := by
  by_cases h5 : l.length < 5
  · have h5' : (l.length : Int) < 5 := by omega
    rw [unitQ_short h5]
    go_enter Tryd.func27, Tryd.ntmps27
    go_wp2_with fail
    go_ret
    exact ⟨rfl, rfl⟩
  · obtain ⟨u, a, b, c, d, r, rfl⟩ := len5 h5
    have hr : (r.length : Int) + 1 + 1 + 1 + 1 + 1 ≤ 1000000 := by simp only [List.length_cons] at hl; omega
    have hex : (⟨(u :: a :: b :: c :: d :: r).toArray⟩ : ByteArray).extract 1 5 = ⟨#[a, b, c, d]⟩ := by
      apply ByteArray.ext; apply Array.ext'
      rw [ByteArray.data_extract]
      simp
    have hz0 : (⟨(u :: a :: b :: c :: d :: r).toArray⟩ : ByteArray)[0]'(by simp [ByteArray.size]) = u := rfl
    have hlen : ((u :: a :: b :: c :: d :: r).length : Int) = (r.length : Int) + 5 := by simp; omega
    obtain ⟨L, hL⟩ : ∃ L, u :: a :: b :: c :: d :: r = L := ⟨_, rfl⟩
    have hu0 : unitQ L = if u = 117 then (if (parseS [a.toNat, b.toNat, c.toNat, d.toNat] 16).2 = 0 then (parseS [a.toNat, b.toNat, c.toNat, d.toNat] 16).1 else -1) else -1 := by rw [← hL]; rfl
    have hz1 : ∀ h, (⟨L.toArray⟩ : ByteArray)[0]'h = u := by subst hL; exact fun h => rfl
    have hl5 : (5 : Int) ≤ (L.length : Int) := by rw [← hL]; omega
    have hl6 : ¬ (L.length : Int) < 5 := by omega
    have hlm : (L.length : Int) ≤ 1000000 := by rw [← hL]; omega
    rw [hL] at hex ⊢
    have HL := Lib.hid hL
    clear hL h5 hl hr hlen hz0
    by_cases hu : u = 117
    · subst hu
      rw [if_pos rfl] at hu0
      have HP := Lib.hid (fun W => parse_any ⟨#[a, b, c, d]⟩ 16 W (by simp [ByteArray.size]))
      have hby : byt ⟨#[a, b, c, d]⟩ = [a.toNat, b.toNat, c.toNat, d.toNat] := rfl
      rw [hby] at HP
      rcases parse4 a.toNat b.toNat c.toNat d.toNat with h1 | ⟨n, hn, h1, hnn⟩
      · rw [h1] at HP hu0
        have hu1 : unitQ L = -1 := hu0
        rw [hu1]
        clear hu0 hu1 h1
        go_enter Tryd.func27, Tryd.ntmps27
        go_wp2_with (go_at_call 36; refine (HP.out _).mono ?_; rintro e w1 ⟨rfl, rfl⟩)
        go_ret
        exact ⟨rfl, rfl⟩
      · rw [h1] at HP hu0
        have hu1 : unitQ L = (n : Int) := hu0
        rw [hu1]
        have hn1 : (n : Int) < 65536 := by omega
        clear hu0 hu1 h1 hnn
        go_enter Tryd.func27, Tryd.ntmps27
        go_wp2_with (go_at_call 36; refine (HP.out _).mono ?_; rintro e w1 ⟨rfl, rfl⟩)
        go_ret
        exact ⟨rfl, rfl⟩
    · rw [if_neg hu] at hu0
      rw [hu0]
      have hu1 : ¬ ((u.toNat : Int) = 117) := fun e => hu (UInt8.toNat_inj.1 (by show u.toNat = 117; omega))
      have hu2 : ((u.toNat : Int) != 117) = true := by simpa using hu1
      have HU := Lib.hid hu
      clear hu hu0
      go_enter Tryd.func27, Tryd.ntmps27
      go_wp2_with fail
      go_ret
      exact ⟨rfl, rfl⟩
end Go.Proofs.YthlijkpeafgenaaDoor
