/- lockagelaw14.RouteUnder. -/
import Derived.Test.YtoegjpfngmilhaaDoorUL
set_option linter.unusedVariables false
set_option linter.unusedSimpArgs false
namespace Go.Proofs.YtoegjpfngmilhaaDoor
open Go.RowKit Go.Lib
open Go.Proofs.YtoegjpfngmilhaaDoorW.PrintWords

theorem under_self (a : List UInt8) : underS a a = true := by
  have := underS_app a []
  rw [List.append_nil] at this
  rw [this]
  rfl
theorem under_slash (a r : List UInt8) : underS a (a ++ 47 :: r) = true := by rw [underS_app]; rfl
theorem under_trans {a b c : List UInt8} (h1 : underS a b = true) (h2 : underS b c = true) : underS a c = true := by
  rcases cut_or a b with h | ⟨r, rfl⟩
  · rw [underS_not h] at h1; cases h1
  · rcases cut_or (a ++ r) c with h | ⟨t, rfl⟩
    · rw [underS_not h] at h2; cases h2
    · rw [underS_app] at h1 h2
      rw [List.append_assoc, underS_app]
      cases r with
      | nil => rw [List.append_nil] at h2; exact h2
      | cons x r => exact h1

set_option maxRecDepth 100000 in
set_option maxHeartbeats 8000000 in
theorem routeUnder_any (A B C : Option Addr) (na nb nc ca cb cc : Nat) (xa xb xc : List Nat) (w : World) (m : Int) (hm : w.cell? ⟨0, 0, none⟩ = some (.int .i64 m))
    (ha : Rd w (.slice A na ca) (u8s xa)) (hb : Rd w (.slice B nb cb) (u8s xb)) (hc : Rd w (.slice C nc cc) (u8s xc)) (ha8 : ∀ x ∈ xa, x < 256) (hb8 : ∀ x ∈ xb, x < 256) (hc8 : ∀ x ∈ xc, x < 256) :
    Calls Tryd.prog 6 #[.slice A na ca, .slice B nb cb, .slice C nc cc] w fun e w' => e = .returned (.bool true) ∧ Below w.heap.size w w' := by
  have HM := Lib.hid hm
  have HA := Lib.hid (fun W (hW : Below w.heap.size w W) => path_any A na ca xa W (ha.below hW) ha8)
  have HB := Lib.hid (fun W (hW : Below w.heap.size w W) => path_any B nb cb xb W (hb.below hW) hb8)
  have HC := Lib.hid (fun W (hW : Below w.heap.size w W) => path_any C nc cc xc W (hc.below hW) hc8)
  clear ha hb hc ha8 hb8 hc8 hm
  have la := pathS_len xa
  have lb := pathS_len xb
  have lc := pathS_len xc
  obtain ⟨rb, hrb⟩ := pathS_head xb
  have HRB := Lib.hid hrb
  clear hrb
  generalize pathS xa = a at *
  generalize pathS xb = b at *
  generalize pathS xc = c at *
  have hab : (⟨a.toArray⟩ : ByteArray) ++ ⟨b.toArray⟩ = ⟨(a ++ b).toArray⟩ := bytes_app a b
  have habc : (⟨(a ++ b).toArray⟩ : ByteArray) ++ ⟨c.toArray⟩ = ⟨(a ++ (b ++ c)).toArray⟩ := (bytes_app (a ++ b) c).trans (by rw [List.append_assoc])
  have u1 : underS a a = true := under_self a
  have u2 : underS a (a ++ b) = true := by rw [HRB.out]; exact under_slash a rb
  have u3 : underS a (a ++ (b ++ c)) = true := by rw [HRB.out]; exact under_slash a (rb ++ c)
  have U1 := Lib.hid u1
  have U2 := Lib.hid u2
  have U3 := Lib.hid u3
  have HT := Lib.hid (fun h1 h2 => under_trans (a := a) (b := b) (c := c) h1 h2)
  clear u1 u2 u3
  obtain ⟨p, hp⟩ : ∃ p, underS a b = p := ⟨_, rfl⟩
  obtain ⟨q, hq⟩ : ∃ q, underS b c = q := ⟨_, rfl⟩
  obtain ⟨r, hr⟩ : ∃ r, underS a c = r := ⟨_, rfl⟩
  have hpq : p = false ∨ (p = true ∧ q = false) ∨ (p = true ∧ q = true ∧ r = true) := by
    cases p with
    | false => exact .inl rfl
    | true =>
      cases q with
      | false => exact .inr (.inl ⟨rfl, rfl⟩)
      | true => exact .inr (.inr ⟨rfl, rfl, by rw [← hr]; exact HT.out hp hq⟩)
  have HP := Lib.hid hp
  have HQ := Lib.hid hq
  have HR := Lib.hid hr
  clear hp hq hr
  have HPQ := Lib.hid hpq
  clear hpq
  rcases HPQ.out with rfl | ⟨rfl, rfl⟩ | ⟨rfl, rfl, rfl⟩
  all_goals clear HPQ
  all_goals
    go_enter Tryd.func6, Tryd.ntmps6
    go_wp2_with first
      | (go_at_call 9; refine (under_any _ _ _ (by omega)).mono ?_; (first | rw [U1.out] | rw [U2.out] | rw [U3.out] | rw [HP.out] | rw [HQ.out] | rw [HR.out]); rintro e w7 ⟨rfl, rfl⟩)
      | (go_at_call 12; refine (HC.out _ HB3.out).mono ?_; rintro e w4 ⟨rfl, hb4⟩; have HB4 := Lib.hid (HB3.out.trans (hb4.mono HB3.out.size)); clear hb4)
      | (go_at_call 12; refine (HB.out _ HB2.out).mono ?_; rintro e w3 ⟨rfl, hb3⟩; have HB3 := Lib.hid (HB2.out.trans (hb3.mono HB2.out.size)); clear hb3)
      | (go_at_call 12; refine (HA.out _ HB1.out).mono ?_; rintro e w2 ⟨rfl, hb2⟩; have HB2 := Lib.hid (HB1.out.trans (hb2.mono HB1.out.size)); clear hb2)
      | (go_at_call 7; refine (awake_any _ m HM.out).mono ?_; rintro e w1 ⟨rfl, hb1⟩; have HB1 := Lib.hid hb1; clear hb1)
    go_ret
    exact ⟨rfl, HB4.out⟩
end Go.Proofs.YtoegjpfngmilhaaDoor
