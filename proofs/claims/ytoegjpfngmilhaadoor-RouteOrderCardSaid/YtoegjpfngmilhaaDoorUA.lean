/- route.Under and lockageref14.Under. -/
import Derived.Test.YtoegjpfngmilhaaDoorT
set_option linter.unusedVariables false
set_option linter.unusedSimpArgs false
namespace Go.Proofs.YtoegjpfngmilhaaDoor
open Go.RowKit Go.Lib
open Go.Proofs.YtoegjpfngmilhaaDoorW.PrintWords

/-- is a path under a prefix? -/
def tailB (p r : List UInt8) : Bool := match r with
  | [] => true
  | c :: _ => c == 47 || p.getLast? == some 47
def underS (p path : List UInt8) : Bool := p.isPrefixOf path && tailB p (path.drop p.length)
theorem underS_app (p r : List UInt8) : underS p (p ++ r) = tailB p r := by
  have h : p.isPrefixOf (p ++ r) = true := by rw [List.isPrefixOf_iff_prefix]; exact List.prefix_append p r
  rw [underS, h, List.drop_left, Bool.true_and]
theorem underS_not {p path : List UInt8} (h : p.isPrefixOf path = false) : underS p path = false := by rw [underS, h]; rfl
theorem suffix47 (p : List UInt8) : Lib.hasSuffix p [47] = (p.getLast? == some 47) := by
  unfold Lib.hasSuffix
  rcases List.eq_nil_or_concat p with rfl | ⟨q, c, rfl⟩
  · rfl
  · rw [List.concat_eq_append]
    have h1 : (q ++ [c]).getLast? = some c := by simp
    rw [h1]
    by_cases hc : c = 47
    · subst hc
      have : [47] <:+ q ++ [47] := ⟨q, rfl⟩
      rw [List.isSuffixOf_iff_suffix.2 this]
      rfl
    · have h2 : ¬ ([47] <:+ q ++ [c]) := by
        rintro ⟨t, ht⟩
        have := congrArg List.getLast? ht
        simp at this
        exact hc this.symm
      have h3 : ([47] : List UInt8).isSuffixOf (q ++ [c]) = false := by
        rw [← Bool.not_eq_true, List.isSuffixOf_iff_suffix]
        exact h2
      rw [h3]
      have : (some c == some (47 : UInt8)) = false := by simpa using hc
      rw [this]

theorem cutp_any (s p : List UInt8) (w : World) : Calls Tryd.prog 17 #[str s, str p] w fun e w' => e = .returned (.tuple #[str (Lib.trimPrefix s p), .bool (p.isPrefixOf s)]) ∧ w' = w := Tryd.strings_CutPrefix ⟨s.toArray⟩ ⟨p.toArray⟩ w
theorem suff_any (p : List UInt8) (w : World) (hp : p.length ≤ 9223372036854775807) : Calls Tryd.prog 18 #[str p, .string ⟨#[47]⟩] w fun e w' => e = .returned (.bool (p.getLast? == some 47)) ∧ w' = w := by
  have := Tryd.strings_HasSuffix ⟨p.toArray⟩ ⟨#[47]⟩ w (by rw [size_eq]; exact hp)
  rw [← suffix47]
  exact this
theorem trim_app (p r : List UInt8) : Lib.trimPrefix (p ++ r) p = r := by
  have h : p.isPrefixOf (p ++ r) = true := by rw [List.isPrefixOf_iff_prefix]; exact List.prefix_append p r
  unfold Lib.trimPrefix Lib.hasPrefix
  rw [h, if_pos rfl, List.drop_left]

theorem underS_cut {p path r : List UInt8} (h : path = p ++ r) : p.isPrefixOf path = true ∧ Lib.trimPrefix path p = r ∧ underS p path = tailB p r := by
  subst h
  exact ⟨by rw [List.isPrefixOf_iff_prefix]; exact List.prefix_append p r, trim_app p r, underS_app p r⟩
theorem cut_or (p path : List UInt8) : p.isPrefixOf path = false ∨ ∃ r, path = p ++ r := by
  by_cases h : p.isPrefixOf path = true
  · obtain ⟨r, rfl⟩ := List.isPrefixOf_iff_prefix.1 h
    exact .inr ⟨r, rfl⟩
  · exact .inl (Bool.eq_false_iff.2 h)

set_option maxHeartbeats 1000000 in
theorem under_any (p path : List UInt8) (w : World) (hp : p.length ≤ 9223372036854775807) :
    Calls Tryd.prog 9 #[str p, str path] w fun e w' => e = .returned (.bool (underS p path)) ∧ w' = w := by
  have HP := Lib.hid hp
  clear hp
  rcases cut_or p path with h | ⟨r, h⟩
  · rw [underS_not h]
    have hc := cutp_any path p w
    rw [h] at hc
    have HC := Lib.hid hc
    clear hc h
    go_enter Tryd.func9, Tryd.ntmps9
    go_wp2_with (go_at_call 17; refine HC.out.mono ?_; rintro e w1 ⟨rfl, rfl⟩)
    go_ret
    exact ⟨rfl, rfl⟩
  · obtain ⟨h1, h2, h3⟩ := underS_cut h
    rw [h3]
    have hc := cutp_any path p w
    rw [h1, h2] at hc
    have HC := Lib.hid hc
    clear hc h1 h2 h3 h
    cases r with
    | nil =>
      go_enter Tryd.func9, Tryd.ntmps9
      go_wp2_with (go_at_call 17; refine HC.out.mono ?_; rintro e w1 ⟨rfl, rfl⟩)
      go_ret
      exact ⟨rfl, rfl⟩
    | cons c r =>
      by_cases hc : c = 47
      · subst hc
        go_enter Tryd.func9, Tryd.ntmps9
        go_wp2_with (go_at_call 17; refine HC.out.mono ?_; rintro e w1 ⟨rfl, rfl⟩)
        go_ret
        exact ⟨rfl, rfl⟩
      · have hc1 : ¬ ((c.toNat : Int) = 47) := fun e => hc (UInt8.toNat_inj.1 (by show c.toNat = 47; omega))
        have hc2 : ((c.toNat : Int) == 47) = false := by simpa using hc1
        have ht : tailB p (c :: r) = (p.getLast? == some 47) := by unfold tailB; have : (c == 47) = false := (by simpa using hc); simp only [this, Bool.false_or]
        rw [ht]
        have hz0 : (⟨(c :: r).toArray⟩ : ByteArray)[0]'(by simp [ByteArray.size]) = c := rfl
        have HT := Lib.hid hc
        clear ht hc
        go_enter Tryd.func9, Tryd.ntmps9
        go_wp2_with first
          | (go_at_call 18; refine (suff_any p _ HP.out).mono ?_; rintro e w1 ⟨rfl, rfl⟩)
          | (go_at_call 17; refine HC.out.mono ?_; rintro e w1 ⟨rfl, rfl⟩)
        go_ret
        exact ⟨rfl, rfl⟩

theorem ba_take (l : List UInt8) (k : Nat) : (⟨l.toArray⟩ : ByteArray).extract 0 k = ⟨(l.take k).toArray⟩ := by
  apply ByteArray.ext; apply Array.ext'
  rw [ByteArray.data_extract]
  simp

set_option maxHeartbeats 2000000 in
theorem runder_any (p path : List UInt8) (w : World) (hp : p.length ≤ 1000000000) (hpa : path.length ≤ 1000000000) :
    Calls Tryd.prog 10 #[str p, str path] w fun e w' => e = .returned (.bool (underS p path)) ∧ w' = w := by
  by_cases hl : path.length < p.length
  · have h1 : p.isPrefixOf path = false := by
      rw [← Bool.not_eq_true, List.isPrefixOf_iff_prefix]
      intro h
      have := h.length_le
      omega
    rw [underS_not h1]
    have hl1 : (path.length : Int) < (p.length : Int) := by omega
    have H := Lib.hid h1
    clear h1
    go_enter Tryd.func10, Tryd.ntmps10
    go_wp2_with fail
    go_ret
    exact ⟨rfl, rfl⟩
  · have hl1 : ¬ (path.length : Int) < (p.length : Int) := by omega
    have hex := ba_take path p.length
    by_cases h : p.isPrefixOf path = true
    · obtain ⟨r, rfl⟩ := List.isPrefixOf_iff_prefix.1 h
      rw [underS_app]
      have H := Lib.hid h
      rw [List.take_left] at hex
      clear h hl
      cases r with
      | nil =>
        have hle : ((p ++ []).length : Int) = (p.length : Int) := by simp
        rw [List.append_nil] at *
        go_enter Tryd.func10, Tryd.ntmps10
        go_wp2_with fail
        go_ret
        exact ⟨rfl, rfl⟩
      | cons c r =>
        obtain ⟨path, hpath⟩ : ∃ q, p ++ c :: r = q := ⟨_, rfl⟩
        have hlen : path.length = p.length + (r.length + 1) := by rw [← hpath]; simp
        have hl2 : ((path.length : Int) == (p.length : Int)) = false := by simp; omega
        have hl3 : (p.length : Int) < (path.length : Int) := by omega
        have hz0 : ∀ h, (⟨path.toArray⟩ : ByteArray)[p.length]'h = c := by
          intro h
          subst hpath
          show (p ++ c :: r).toArray[p.length]'_ = c
          simp
        rw [hpath] at hex hl1 hpa ⊢
        have HZ := Lib.hid hpath
        have HLEN := Lib.hid hlen
        clear hpath hlen
        rcases List.eq_nil_or_concat p with hp0 | ⟨p0, z, hp0⟩
        · subst hp0
          have hz1 : ∀ h, (⟨path.toArray⟩ : ByteArray)[0]'h = c := fun h => hz0 h
          have hl4 : (0 : Int) < (path.length : Int) := by simpa using hl3
          have hl5 : ((path.length : Int) == 0) = false := by simpa using hl2
          by_cases hc : c = 47
          · subst hc
            have ht : tailB [] (47 :: r) = true := rfl
            rw [ht]
            clear ht
            go_enter Tryd.func10, Tryd.ntmps10
            go_wp2_with fail
            go_ret
            exact ⟨rfl, rfl⟩
          · have hc1 : ¬ ((c.toNat : Int) = 47) := fun e => hc (UInt8.toNat_inj.1 (by show c.toNat = 47; omega))
            have hc2 : ((c.toNat : Int) == 47) = false := by simpa using hc1
            have hc3 : (c == 47) = false := by simpa using hc
            have HC := Lib.hid hc
            clear hc
            have ht : tailB [] (c :: r) = false := by simp [tailB, hc3]
            rw [ht]
            clear ht
            go_enter Tryd.func10, Tryd.ntmps10
            go_wp2_with fail
            go_ret
            exact ⟨rfl, rfl⟩
        · rw [List.concat_eq_append] at hp0
          have hpe : (p == []) = false := by rw [hp0]; simp
          have hpl : p.length = p0.length + 1 := by rw [hp0]; simp
          have hzl : ∀ h, (⟨p.toArray⟩ : ByteArray)[p.length - 1]'h = z := by
            intro h
            subst hp0
            show (p0 ++ [z]).toArray[(p0 ++ [z]).length - 1]'_ = z
            simp
          have hgl : p.getLast? = some z := by rw [hp0]; simp
          have hpi : (1 : Int) ≤ (p.length : Int) := by omega
          have HP0 := Lib.hid hp0
          have HPL := Lib.hid hpl
          clear hp0 hpl
          by_cases hq : z = 47
          · subst hq
            have ht : tailB p (c :: r) = true := by unfold tailB; rw [hgl]; simp
            rw [ht]
            have HGL := Lib.hid hgl
            clear ht hgl
            go_enter Tryd.func10, Tryd.ntmps10
            go_wp2_with fail
            go_ret
            exact ⟨rfl, rfl⟩
          · have hq1 : ¬ ((z.toNat : Int) = 47) := fun e => hq (UInt8.toNat_inj.1 (by show z.toNat = 47; omega))
            have hq2 : ((z.toNat : Int) == 47) = false := by simpa using hq1
            have ht0 : tailB p (c :: r) = (c == 47) := by unfold tailB; rw [hgl]; have : ((some z : Option UInt8) == some 47) = false := (by simpa using hq); simp only [this, Bool.or_false]
            rw [ht0]
            have HGL := Lib.hid hgl
            have HQ := Lib.hid hq
            clear ht0 hgl hq
            by_cases hc : c = 47
            · subst hc
              have ht : ((47 : UInt8) == 47) = true := rfl
              rw [ht]
              clear ht
              go_enter Tryd.func10, Tryd.ntmps10
              go_wp2_with fail
              go_ret
              exact ⟨rfl, rfl⟩
            · have hc1 : ¬ ((c.toNat : Int) = 47) := fun e => hc (UInt8.toNat_inj.1 (by show c.toNat = 47; omega))
              have hc2 : ((c.toNat : Int) == 47) = false := by simpa using hc1
              have hc3 : (c == 47) = false := by simpa using hc
              have HC := Lib.hid hc
              clear hc
              rw [hc3]
              go_enter Tryd.func10, Tryd.ntmps10
              go_wp2_with fail
              go_ret
              exact ⟨rfl, rfl⟩
    · have h1 : p.isPrefixOf path = false := Bool.eq_false_iff.2 h
      rw [underS_not h1]
      have hne : ¬ path.take p.length = p := by
        intro e
        exact h (List.isPrefixOf_iff_prefix.2 (List.prefix_iff_eq_take.2 e.symm))
      have hne2 : (path.take p.length == p) = false := by simpa using hne
      have H := Lib.hid h1
      have HN := Lib.hid hne
      clear h h1 hne
      go_enter Tryd.func10, Tryd.ntmps10
      go_wp2_with fail
      go_ret
      exact ⟨rfl, rfl⟩
end Go.Proofs.YtoegjpfngmilhaaDoor
