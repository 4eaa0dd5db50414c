/- lockageref13.Normal. -/
import Derived.Test.YtoegjpfngmilhaaDoorS
set_option linter.unusedVariables false
set_option linter.unusedSimpArgs false
namespace Go.Proofs.YtoegjpfngmilhaaDoor
open Go.RowKit Go.Lib
open Go.Proofs.YtoegjpfngmilhaaDoorW.PrintWords

/-- where the query begins, for the loop -/
theorem cutQ_loop (l : List UInt8) : ∃ p qy, cutQ l = (p, qy) ∧ l = p ++ qy ∧ (63 : UInt8) ∉ p ∧ (qy = [] ∨ ∃ r, qy = 63 :: r) := by
  rcases index1 63 l with ⟨h, hi⟩ | ⟨a, r, rfl, h, hi⟩
  · exact ⟨l, [], cutQ_none h, by simp, h, .inl rfl⟩
  · exact ⟨a, 63 :: r, cutQ_some h r, rfl, h, .inr ⟨r, rfl⟩⟩
theorem segsOf_cons (r : List UInt8) : segsOf (47 :: r) = pieces 47 r := by simp [segsOf]

set_option maxRecDepth 100000 in
set_option maxHeartbeats 4000000 in
theorem rnormal_any (l : List UInt8) (w : World) (hsz : l.length ≤ 1000000) (A B : List UInt8) (c : Nat) (hq : normS l = (A, B, c)) :
    Calls Tryd.prog 34 #[str l] w fun e w' => e = .returned (.tuple #[str A, str B, .int .i64 c]) ∧ Below w.heap.size w w' := by
  by_cases h2 : 200 < l.length
  · have h2' : (200 : Int) < (l.length : Int) := by omega
    unfold normS at hq
    rw [if_pos h2] at hq
    injection hq with e1 e2
    injection e2 with e2 e3
    subst e1 e2 e3
    go_enter Tryd.func34, Tryd.ntmps34
    go_wp2_with fail
    go_ret3
    exact ⟨rfl, Below.refl _ _⟩
  · have h2' : ¬ (200 : Int) < (l.length : Int) := by omega
    unfold normS at hq
    rw [if_neg h2] at hq
    obtain ⟨p, qy, hcut, happ, h63, hqy⟩ := cutQ_loop l
    rw [hcut] at hq
    simp only at hq
    have hlen : l.length = p.length + qy.length := by rw [happ]; simp
    have HX1 := Lib.hid (show (⟨l.toArray⟩ : ByteArray).extract 0 p.length = ⟨p.toArray⟩ by
      apply ByteArray.ext
      apply Array.ext'
      rw [ByteArray.data_extract]
      simp [happ])
    have HX2 := Lib.hid (show (⟨l.toArray⟩ : ByteArray).extract p.length l.length = ⟨qy.toArray⟩ by
      apply ByteArray.ext
      apply Array.ext'
      rw [ByteArray.data_extract]
      simp [happ])
    have HAPP := Lib.hid happ
    have HQ := Lib.hid hq
    have H63 := Lib.hid h63
    clear happ hcut hq h63
    go_enter Tryd.func34, Tryd.ntmps34
    go_wp2_with fail
    go_loopg [5] p.length (fun gg s5 wr => ∃ i : Nat, s5 = .int .i64 i ∧ i ≤ p.length ∧ p.length - i ≤ gg ∧ w = wr)
    case atStart => exact ⟨0, rfl, by omega, by omega, rfl⟩
    case round =>
      obtain ⟨i, rfl, hi, hg, rfl⟩ := hrel
      by_cases hip : i < p.length
      · have hlt1 : (i : Int) < (l.length : Int) := by omega
        have hil : i < l.length := by omega
        have hx0 : (⟨l.toArray⟩ : ByteArray)[i]'(by simpa [ByteArray.size] using hil) = p[i] := by
          show l[i] = p[i]
          have := HAPP.out
          subst this
          exact List.getElem_append_left hip
        obtain ⟨x, hx⟩ : ∃ x, p[i] = x := ⟨_, rfl⟩
        rw [hx] at hx0
        obtain ⟨k, hk⟩ : ∃ k, x.toNat = k := ⟨_, rfl⟩
        have hk63 : ((k : Int) != 63) = true := by
          rw [bne_iff_ne]
          intro h
          refine H63.out ?_
          have : x = 63 := UInt8.toNat_inj.1 (by rw [hk]; show k = 63; omega)
          rw [← this, ← hx]
          exact List.getElem_mem hip
        clear hx
        go_wp2_with fail
        go_roundg (p.length - (i + 1))
        case measure => omega
        case rel => exact ⟨i + 1, by simp [wrap64] <;> omega, by omega, by omega, rfl⟩
      · obtain rfl : i = p.length := by omega
        have hps : p.length ≤ 1000 := by omega
        have hqs : qy.length ≤ 1000 := by omega
        have HLEN := Lib.hid hlen
        clear hip hi hg
        rcases hqy with hq0 | ⟨qr, hq1⟩
        · have hlt1 : ¬ (p.length : Int) < (l.length : Int) := by rw [hlen, hq0]; simp
          have hpl : p = l := by have := HAPP.out; rw [hq0, List.append_nil] at this; exact this.symm
          obtain rfl : qy = [] := hq0
          obtain rfl : p = l := hpl
          have hx1 := HX1.out
          clear hlen
          cases hS : plainS p with
          | none =>
            have hq := HQ.out
            rw [hS] at hq
            simp only at hq
            injection hq with e1 e2
            injection e2 with e2 e3
            subst e1 e2 e3
            have arm := rplain_any ⟨p.toArray⟩ w (by simpa [ByteArray.size] using hps) [] false (by unfold plainT; rw [show plainS (lst ⟨p.toArray⟩) = none from hS])
            go_wp2_with (go_at_call 43; refine arm.mono ?_; rintro e w2 ⟨rfl, hb2⟩)
            go_ret3
            exact ⟨rfl, hb2⟩
          | some q =>
            have hql := plainS_len p.length p q (Nat.le_refl _) hS
            have arm := rplain_any ⟨p.toArray⟩ w (by simpa [ByteArray.size] using hps) q true (by unfold plainT; rw [show plainS (lst ⟨p.toArray⟩) = some q from hS])
            have hq := HQ.out
            rw [hS] at hq
            simp only at hq
            clear hS
            match q, hql, arm, hq with
            | [], hql, arm, hq =>
              rw [if_neg (fun h => by cases h.1)] at hq
              injection hq with e1 e2
              injection e2 with e2 e3
              subst e1 e2 e3
              go_wp2_with (go_at_call 43; refine arm.mono ?_; rintro e w2 ⟨rfl, hb2⟩)
              go_ret3
              exact ⟨rfl, hb2⟩
            | c0 :: q2, hql, arm, hq =>
              simp only [List.length_cons] at hql
              have hz0 : (⟨(c0 :: q2).toArray⟩ : ByteArray)[0]'(by simp [ByteArray.size]) = c0 := rfl
              by_cases h0 : c0 = 47
              · subst h0
                have e := hq
                rw [if_pos ⟨rfl, rfl⟩] at e
                injection e with e1 e2
                injection e2 with e2 e3
                subst e2 e3
                have HE := Lib.hid e1
                clear hq e1
                go_wp2_with (go_at_call 43; refine arm.mono ?_; rintro e w2 ⟨rfl, hb2⟩)
                have HB2 := Lib.hid hb2
                clear hb2 arm
                go_loopg [9] 0 (fun gg s9 wq => s9 = .int .i64 0 ∧ w2 = wq)
                case atStart => exact ⟨rfl, rfl⟩
                case round =>
                  obtain ⟨rfl, rfl⟩ := hrel
                  have arms := rseg_any (47 :: q2) w2 (by simp; omega)
                  rw [segsOf_cons] at arms
                  go_wp2_with first
                    | (go_at_call 45; refine arms.mono ?_; rintro e w3 ⟨v, rfl, hR3⟩; obtain ⟨A3, n3, c3, rfl⟩ := hR3.ow.slice'; have HR3 := Lib.hid hR3; clear hR3)
                    | (go_at_call 44; refine (dots_any A3 n3 c3 (pieces 47 q2) _ HR3.out.ow.rd (pieces_ne 47 q2) (by rw [joinS_pieces]; simp; omega)).mono ?_; rintro e w4 ⟨rfl, hb4⟩)
                  go_ret3
                  exact ⟨by rw [← HE.out]; rfl, HB2.out.trans (HR3.out.bw.trans (hb4.mono HR3.out.bw.size) |>.mono HB2.out.size)⟩
              · rw [if_neg (fun h => by have := h.1; simp at this; exact h0 this)] at hq
                injection hq with e1 e2
                injection e2 with e2 e3
                subst e1 e2 e3
                obtain ⟨k0, hk0⟩ : ∃ k, c0.toNat = k := ⟨_, rfl⟩
                have hk47 : ((k0 : Int) != 47) = true := by
                  rw [bne_iff_ne]
                  intro h
                  exact h0 (UInt8.toNat_inj.1 (by rw [hk0]; show k0 = 47; omega))
                go_wp2_with (go_at_call 43; refine arm.mono ?_; rintro e w2 ⟨rfl, hb2⟩)
                go_ret3
                exact ⟨rfl, hb2⟩
        · have hlt1 : (p.length : Int) < (l.length : Int) := by rw [hlen, hq1]; simp; omega
          have hpl : (p.length : Int) ≤ (l.length : Int) := by omega
          have hil : p.length < l.length := by omega
          have hx0 : (⟨l.toArray⟩ : ByteArray)[p.length]'(by simpa [ByteArray.size] using hil) = 63 := by
            show l[p.length] = 63
            have := HAPP.out
            rw [hq1] at this
            subst this
            simp
          have hx1 := HX1.out
          have hx2 := HX2.out
          have HQ1 := Lib.hid hq1
          clear hq1 hlen
          cases hS : plainS p with
          | none =>
            have hq := HQ.out
            rw [hS] at hq
            simp only at hq
            injection hq with e1 e2
            injection e2 with e2 e3
            subst e1 e2 e3
            have arm := rplain_any ⟨p.toArray⟩ w (by simpa [ByteArray.size] using hps) [] false (by unfold plainT; rw [show plainS (lst ⟨p.toArray⟩) = none from hS])
            go_wp2_with (go_at_call 43; refine arm.mono ?_; rintro e w2 ⟨rfl, hb2⟩)
            go_ret3
            exact ⟨rfl, hb2⟩
          | some q =>
            have hql := plainS_len p.length p q (Nat.le_refl _) hS
            have arm := rplain_any ⟨p.toArray⟩ w (by simpa [ByteArray.size] using hps) q true (by unfold plainT; rw [show plainS (lst ⟨p.toArray⟩) = some q from hS])
            have hq := HQ.out
            rw [hS] at hq
            simp only at hq
            clear hS
            match q, hql, arm, hq with
            | [], hql, arm, hq =>
              rw [if_neg (fun h => by cases h.1)] at hq
              injection hq with e1 e2
              injection e2 with e2 e3
              subst e1 e2 e3
              go_wp2_with (go_at_call 43; refine arm.mono ?_; rintro e w2 ⟨rfl, hb2⟩)
              go_ret3
              exact ⟨rfl, hb2⟩
            | c0 :: q2, hql, arm, hq =>
              simp only [List.length_cons] at hql
              have hz0 : (⟨(c0 :: q2).toArray⟩ : ByteArray)[0]'(by simp [ByteArray.size]) = c0 := rfl
              by_cases h0 : c0 = 47
              · subst h0
                have HQ2 := Lib.hid hq
                clear hq
                go_wp2_with (go_at_call 43; refine arm.mono ?_; rintro e w2 ⟨rfl, hb2⟩)
                have HB2 := Lib.hid hb2
                clear hb2 arm
                go_loopg [9] qy.length (fun gg s9 wq => ∃ j : Nat, s9 = .int .i64 j ∧ j ≤ qy.length ∧ qy.length - j ≤ gg ∧ w2 = wq ∧ Aside (mayB (qy.take j) = true))
                case atStart =>
                  refine ⟨0, rfl, by omega, by omega, rfl, ?_⟩
                  show Aside _
                  simp [Aside, mayB]
                case round =>
                  obtain ⟨j, rfl, hj, hgj, rfl, HA⟩ := hrel
                  have HA := Lib.hid HA.out
                  by_cases hlj : j < qy.length
                  · have hlj1 : (j : Int) < (qy.length : Int) := by omega
                    have hjx : (⟨qy.toArray⟩ : ByteArray)[j]'(by simpa [ByteArray.size] using hlj) = qy[j] := rfl
                    have hmem : qy[j] ∈ qy := List.getElem_mem hlj
                    have htk : mayB (qy.take (j + 1)) = (mayB (qy.take j) && okC qy[j]) := by
                      rw [List.take_succ_eq_append_getElem hlj, mayB_app]
                      simp [mayB]
                    obtain ⟨x, hx⟩ : ∃ x, qy[j] = x := ⟨_, rfl⟩
                    rw [hx] at hjx hmem htk
                    have hbad : okC x = false → ([], [], 40) = (A, B, c) := fun h => by
                      have hm : mayB qy = false := by
                        unfold mayB
                        rw [List.all_eq_false]
                        exact ⟨x, hmem, by rw [h]; simp⟩
                      have := HQ2.out
                      rw [if_neg (fun h => by rw [hm] at h; cases h.2)] at this
                      exact this
                    obtain ⟨k, hk⟩ : ∃ k, x.toNat = k := ⟨_, rfl⟩
                    have HK := Lib.hid hk
                    clear hx hmem
                    by_cases h1 : k < 33
                    · have h1' : (k : Int) < 33 := by omega
                      have e := hbad (by unfold okC; rw [HK.out]; simp; omega)
                      injection e with e1 e2
                      injection e2 with e2 e3
                      subst e1 e2 e3
                      clear hbad htk
                      go_wp2_with fail
                      go_ret3
                      exact ⟨rfl, HB2.out⟩
                    · have h1' : ¬ (k : Int) < 33 := by omega
                      by_cases h2 : 126 < k
                      · have h2' : (126 : Int) < (k : Int) := by omega
                        have e := hbad (by unfold okC; rw [HK.out]; simp; omega)
                        injection e with e1 e2
                        injection e2 with e2 e3
                        subst e1 e2 e3
                        clear hbad htk
                        go_wp2_with fail
                        go_ret3
                        exact ⟨rfl, HB2.out⟩
                      · have h2' : ¬ (126 : Int) < (k : Int) := by omega
                        by_cases h3 : k = 35
                        · subst h3
                          have e := hbad (by unfold okC; rw [HK.out]; rfl)
                          injection e with e1 e2
                          injection e2 with e2 e3
                          subst e1 e2 e3
                          clear hbad htk
                          go_wp2_with fail
                          go_ret3
                          exact ⟨rfl, HB2.out⟩
                        · have h3' : ((k : Int) == 35) = false := by rw [beq_eq_false_iff_ne]; omega
                          have HTK := Lib.hid (show mayB (qy.take (j + 1)) = true by rw [htk, HA.out, Bool.true_and]; unfold okC; rw [HK.out]; simp; omega)
                          clear hbad htk
                          go_wp2_with fail
                          go_roundg (qy.length - (j + 1))
                          case measure => omega
                          case rel =>
                            refine ⟨j + 1, by simp [wrap64] <;> omega, by omega, by omega, rfl, ?_⟩
                            show Aside _
                            exact HTK.out
                  · have hlj1 : ¬ (j : Int) < (qy.length : Int) := by omega
                    have hm : mayB qy = true := by
                      have := HA.out
                      rwa [List.take_of_length_le (by omega)] at this
                    have e := HQ2.out
                    rw [if_pos ⟨rfl, hm⟩] at e
                    injection e with e1 e2
                    injection e2 with e2 e3
                    subst e2 e3
                    have HE := Lib.hid e1
                    clear e1 hm
                    have arms := rseg_any (47 :: q2) w2 (by simp; omega)
                    rw [segsOf_cons] at arms
                    go_wp2_with first
                      | (go_at_call 45; refine arms.mono ?_; rintro e w3 ⟨v, rfl, hR3⟩; obtain ⟨A3, n3, c3, rfl⟩ := hR3.ow.slice'; have HR3 := Lib.hid hR3; clear hR3)
                      | (go_at_call 44; refine (dots_any A3 n3 c3 (pieces 47 q2) _ HR3.out.ow.rd (pieces_ne 47 q2) (by rw [joinS_pieces]; simp; omega)).mono ?_; rintro e w4 ⟨rfl, hb4⟩)
                    go_ret3
                    exact ⟨by rw [← HE.out]; rfl, HB2.out.trans (HR3.out.bw.trans (hb4.mono HR3.out.bw.size) |>.mono HB2.out.size)⟩
              · rw [if_neg (fun h => by have := h.1; simp at this; exact h0 this)] at hq
                injection hq with e1 e2
                injection e2 with e2 e3
                subst e1 e2 e3
                obtain ⟨k0, hk0⟩ : ∃ k, c0.toNat = k := ⟨_, rfl⟩
                have hk47 : ((k0 : Int) != 47) = true := by
                  rw [bne_iff_ne]
                  intro h
                  exact h0 (UInt8.toNat_inj.1 (by rw [hk0]; show k0 = 47; omega))
                go_wp2_with (go_at_call 43; refine arm.mono ?_; rintro e w2 ⟨rfl, hb2⟩)
                go_ret3
                exact ⟨rfl, hb2⟩
end Go.Proofs.YtoegjpfngmilhaaDoor
