/- Contract of lockagelaw02.IdsMade. -/
import Derived.Test.YteaifndkmknanaaAB
import Derived.Test.YteaifndkmknanaaAG
set_option linter.unusedVariables false
set_option linter.unusedSimpArgs false
namespace Go.Proofs.Yteaifndkmknanaa
open Go.RowKit
open Go.Proofs.YteaifndkmknanaaW.PrintWords

theorem OkM.made (room : Nat) (l : List Nat) : OkM 60 (madeS room l) := by
  have := OkM.run (l.take 60) (OkM.start room)
  unfold madeS
  obtain ⟨h1, h2, h3, h4, h5⟩ := this
  have hl : (l.take 60).length ≤ 60 := by simp; omega
  exact ⟨h1, h2, by omega, by omega, h5⟩

def S4 (W : World) (b : Nat) (x y z : Value) (p : Addr) (v : Value) (w' : World) : Prop := w'.cell? ⟨b, 0, none⟩ = some x ∧ w'.cell? ⟨b, 1, none⟩ = some y ∧ w'.cell? ⟨b, 2, none⟩ = some z ∧ w'.cell? p = some v ∧ Below W.heap.size W w'
theorem S4.b {W w' : World} {b : Nat} {x y z v : Value} {p : Addr} (h : S4 W b x y z p v w') : Below W.heap.size W w' := h.2.2.2.2
theorem S4.below {W w1 w2 : World} {b : Nat} {x y z v : Value} {p : Addr} (hb : Below w1.heap.size w1 w2) (h : S4 W b x y z p v w1) : S4 W b x y z p v w2 := by
  obtain ⟨h0, h1, h2, h3, hB⟩ := h
  exact ⟨keepc hb h0, keepc hb h1, keepc hb h2, keepc hb h3, hB.trans (hb.mono hB.size)⟩

set_option maxHeartbeats 4000000 in
theorem idsMade_any (w : World) (room id at' : Nat) (Al : Option Addr) (nl cl : Nat) (l : List Nat) (hr : room < 256) (hid : id < 256) (hat : at' < 256) (hl : Rd w (.slice Al nl cl) (u8s l)) (h8 : ∀ x ∈ l, x < 256) :
    Calls Try.prog 4 #[.int .u8 room, .slice Al nl cl, .int .u8 id, .int .u8 at'] w fun e w' => e = .returned (.bool true) ∧ Below w.heap.size w w' := by
  have hm := Lib.hid (made_any w room Al nl cl l hr hl h8)
  have hok := OkM.made room l
  generalize madeS room l = st at hm hok
  have hs : st.1.small := hok.small (by omega)
  have HOK := Lib.hid hok
  clear hl h8 hok
  go_enter Try.func4, Try.ntmps4
  go_wp2_with fail
  refine hm.out.mono ?_
  rintro e w1 ⟨A1, n1, c1, A2, n2, c2, A3, n3, c3, Ai, ni, ci, rfl, hO, hI, hB1⟩
  have lI := hI.len
  rw [ints_len] at lI
  have HO := Lib.hid hO.r
  have HI := Lib.hid hI
  clear hm hO hI
  by_cases hni : ni = 0
  · subst hni
    go_wp2_with fail
    go_quiet (fail)
    have BV : Below w.heap.size w ((w1.alloc (.cells #[.slice A1 n1 c1, .slice A2 n2 c2, .slice A3 n3 c3] 25)).drewN nq) := pw_below_drewN (hB1.alloc hB1.size _) _
    have RV : TabR ((w1.alloc (.cells #[.slice A1 n1 c1, .slice A2 n2 c2, .slice A3 n3 c3] 25)).drewN nq) (.slice A1 n1 c1) (.slice A2 n2 c2) (.slice A3 n3 c3) st.1 := HO.out.below (pw_below_drewN ((Below.refl _ _).alloc (Nat.le_refl _) _) _)
    have XV : ((w1.alloc (.cells #[.slice A1 n1 c1, .slice A2 n2 c2, .slice A3 n3 c3] 25)).drewN nq).heap[w1.heap.size]? = some (.cells #[.slice A1 n1 c1, .slice A2 n2 c2, .slice A3 n3 c3] 25 (0, 0)) := heap_alloc_new w1 _
    go_wp2_with fail
    have RV := Lib.hid (RV)
    have XV := Lib.hid (XV)
    refine (awake_any _).mono ?_
    rintro e w6 ⟨rfl, hb6⟩
    have X6 := keep hb6 XV.out
    have R6 := Lib.hid (RV.out.below hb6)
    have B6 := BV.trans (hb6.mono BV.size)
    have z0 := box_at X6 0 _ rfl
    have z1 := box_at X6 1 _ rfl
    have z2 := box_at X6 2 _ rfl
    clear hb6
    go_wp2_with fail
    refine (told_any _ A1 n1 c1 A2 n2 c2 A3 n3 c3 st.1 id R6.out hs (by omega)).mono ?_
    rintro e w7 ⟨rfl, hb7⟩
    have X7 := keep hb7 X6
    have R7 := Lib.hid (R6.out.below hb7)
    have B7 := B6.trans (hb7.mono B6.size)
    clear z0 z1 z2 hb7 X6
    have z0 := box_at X7 0 _ rfl
    have z1 := box_at X7 1 _ rfl
    have z2 := box_at X7 2 _ rfl
    go_wp2_with fail
    refine (told_any _ A1 n1 c1 A2 n2 c2 A3 n3 c3 st.1 (-1) R7.out hs (by omega)).mono ?_
    rintro e w8 ⟨rfl, hb8⟩
    have B8 := B7.trans (hb8.mono B7.size)
    clear z0 z1 z2 hb8 X7
    go_wp2_with fail
    go_ret
    exact ⟨by simp, B8⟩
  · have hni1 : (0 : Int) < (ni : Int) := by omega
    have hni2 : ¬ (ni : Int) = 0 := by omega
    have hni0 : 0 < ni := by omega
    have hnid : decide (0 < ni) = true := by simp [hni0]
    obtain ⟨kq, hkq⟩ : ∃ kq, at' % ni = kq := ⟨_, rfl⟩
    have hq : (at' : Int) % (ni : Int) = (kq : Int) := by rw [← hkq]; simp
    have htm : (at' : Int).tmod (ni : Int) = (kq : Int) := by rw [Int.tmod_eq_emod_of_nonneg (by omega)]; exact hq
    have hwa : IntKind.i64.wrap (at' : Int) = (at' : Int) := by rw [IntKind.wrap_i64]; omega
    have hkl' : kq < ni := by rw [← hkq]; exact Nat.mod_lt _ (by omega)
    have hkq2 : (kq : Int) < (ni : Int) := by omega
    have hin : st.2.getD kq 0 ≤ 9223372036854775807 := by
      have hl : kq < st.2.length := by omega
      rw [List.getD_eq_getElem?_getD, List.getElem?_eq_getElem hl]
      have := HOK.out.id _ (List.getElem_mem hl)
      simp; omega
    obtain ⟨bi, oi, rfl, hbi, hic⟩ := HI.out.get (by omega)
    have hic1 : w1.cell? ⟨bi, oi + kq, none⟩ = some (.int .i64 (st.2.getD kq 0)) := hic _ _ (by
      have hl : kq < st.2.length := by omega
      rw [ints_at hl, List.getD_eq_getElem?_getD, List.getElem?_eq_getElem hl]; rfl)
    generalize st.2.getD kq 0 = idn at *
    have HKQ := Lib.hid hkq
    clear hkq hic
    go_wp2_with fail
    have hw : Below w1.heap.size w1 (w1.alloc (.cells #[.slice A1 n1 c1, .slice A2 n2 c2, .slice A3 n3 c3] 25)) := (Below.refl _ _).alloc (Nat.le_refl _) _
    have x0 := heap_alloc_new w1 (.cells #[.slice A1 n1 c1, .slice A2 n2 c2, .slice A3 n3 c3] 25)
    have hS : S4 (w1.alloc (.cells #[.slice A1 n1 c1, .slice A2 n2 c2, .slice A3 n3 c3] 25)) w1.heap.size (.slice A1 n1 c1) (.slice A2 n2 c2) (.slice A3 n3 c3) ⟨bi, oi + kq, none⟩ (.int .i64 idn) (w1.alloc (.cells #[.slice A1 n1 c1, .slice A2 n2 c2, .slice A3 n3 c3] 25)) :=
      ⟨box_at x0 0 _ rfl, box_at x0 1 _ rfl, box_at x0 2 _ rfl, keepc hw hic1, Below.refl _ _⟩
    have HS := Lib.hid hS
    have HT := Lib.hid (HO.out.below hw)
    have HB := Lib.hid (hB1.trans (hw.mono hB1.size))
    have HX := Lib.hid x0
    generalize hW : (w1.alloc (.cells #[.slice A1 n1 c1, .slice A2 n2 c2, .slice A3 n3 c3] 25)) = W at *
    clear hS hW hw x0 hic1
    go_region_held3 (fun w' => w'.cell? ⟨w1.heap.size, 0, none⟩ = some (.slice A1 n1 c1) ∧ w'.cell? ⟨w1.heap.size, 1, none⟩ = some (.slice A2 n2 c2) ∧ w'.cell? ⟨w1.heap.size, 2, none⟩ = some (.slice A3 n3 c3) ∧ w'.cell? ⟨bi, oi + kq, none⟩ = some (.int .i64 idn) ∧ Below W.heap.size W w')
      (first | exact HS.out.below (below_drew (Below.refl _ _)) | (refine S4.below ?_ ‹_›; assumption))
      (first
       | (go_at_call 8
          refine (told_any _ A1 n1 c1 A2 n2 c2 A3 n3 c3 st.1 idn (HT.out.below (‹S4 W _ _ _ _ _ _ _›).b) hs hin).mono ?_
          rintro e w5 ⟨rfl, hb5⟩))
    have hb5 : Below W.heap.size W w5 := (below_drew (Below.refl _ _)).trans hb5
    have BV := HB.out.trans (hb5.mono HB.out.size)
    have RV := HT.out.below hb5
    have XV := keep hb5 HX.out
    go_wp2_with fail
    have RV := Lib.hid (RV)
    have XV := Lib.hid (XV)
    refine (awake_any _).mono ?_
    rintro e w6 ⟨rfl, hb6⟩
    have X6 := keep hb6 XV.out
    have R6 := Lib.hid (RV.out.below hb6)
    have B6 := BV.trans (hb6.mono BV.size)
    have z0 := box_at X6 0 _ rfl
    have z1 := box_at X6 1 _ rfl
    have z2 := box_at X6 2 _ rfl
    clear hb6
    go_wp2_with fail
    refine (told_any _ A1 n1 c1 A2 n2 c2 A3 n3 c3 st.1 id R6.out hs (by omega)).mono ?_
    rintro e w7 ⟨rfl, hb7⟩
    have X7 := keep hb7 X6
    have R7 := Lib.hid (R6.out.below hb7)
    have B7 := B6.trans (hb7.mono B6.size)
    clear z0 z1 z2 hb7 X6
    have z0 := box_at X7 0 _ rfl
    have z1 := box_at X7 1 _ rfl
    have z2 := box_at X7 2 _ rfl
    go_wp2_with fail
    refine (told_any _ A1 n1 c1 A2 n2 c2 A3 n3 c3 st.1 (-1) R7.out hs (by omega)).mono ?_
    rintro e w8 ⟨rfl, hb8⟩
    have B8 := B7.trans (hb8.mono B7.size)
    clear z0 z1 z2 hb8 X7
    go_wp2_with fail
    go_ret
    exact ⟨by simp, B8⟩
end Go.Proofs.Yteaifndkmknanaa
