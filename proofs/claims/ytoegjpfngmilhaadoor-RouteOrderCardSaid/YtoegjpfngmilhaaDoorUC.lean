/- route.Right. -/
import Derived.Test.YtoegjpfngmilhaaDoorUB
set_option linter.unusedVariables false
set_option linter.unusedSimpArgs false
namespace Go.Proofs.YtoegjpfngmilhaaDoor
open Go.RowKit Go.Lib Go.Maps
open Go.Proofs.YtoegjpfngmilhaaDoorW.PrintWords
attribute [local go_sem] Oper.semAt_some

section
variable {P : Program} {ops : Array Oper} {rest : List Oper} {o : Oper} {a : Act} {Q : Exit → Act → World → Prop} {W : World}
theorem wp_set_len_g (hw : Region.wanted o (yielded ops a.tmps) = true) (m : Operand) (t : TypeId) (hop : o.op = Op.call { callee := Callee.builtin Builtin.len, args := #[m], argTypes := #[t] })
    (k e : TypeId) (ht : P.underlying t = some (.map k e)) (b : Nat) (ls : List Lit) (hm : a.eval m = .map (some b)) (hs : LSet P k W b ls)
    (hK : wpList P ops Q rest (a.put o.dst (.int .i64 (dcount ls))) W) :
    wpList P ops Q (o :: rest) a W := by
  refine wpList_step fun K' hK' => ?_
  rw [if_pos hw]
  unfold Oper.wp
  simp [execOp, hop, resolve, invoke, builtin, hm, hs.1.len ht o.type, Result.andThen]
  refine hK' _ _ ?_
  rw [size_setOf _ _ hs.2]
  exact hK
end
def sLits (xs : List (List UInt8)) : List Lit := xs.map Lit.string
theorem sLits_key (xs : List (List UInt8)) : ∀ x ∈ sLits xs, WideAt.IsKeyLit x := fun x hx => by
  obtain ⟨s, _, rfl⟩ := List.mem_map.1 hx
  trivial
theorem sLits_nodup (xs : List (List UInt8)) : (sLits xs).Nodup ↔ xs.Nodup := by
  induction xs with
  | nil => simp [sLits]
  | cons x xs ih =>
    unfold sLits at ih ⊢
    rw [List.map_cons, List.nodup_cons, List.nodup_cons, ih]
    refine and_congr_left' (not_congr ?_)
    constructor
    · intro h
      obtain ⟨y, hy, he⟩ := List.mem_map.1 h
      injection he with he
      exact he ▸ hy
    · exact fun h => List.mem_map.2 ⟨x, h, rfl⟩
theorem sLits_len (xs : List (List UInt8)) : (sLits xs).length = xs.length := by simp [sLits]
theorem sLits_snoc (xs : List (List UInt8)) (x : List UInt8) : sLits (xs ++ [x]) = sLits xs ++ [.string x] := by simp [sLits]
theorem keyed9 : Keyed Tryd.prog 9 := string_keyed Tryd.underlying9
theorem keyOf9 (x : List UInt8) (h : x.length ≤ 1000000) : keyOf Tryd.prog 9 (str x) = some (.string x) := by
  have : (⟨x.toArray⟩ : ByteArray).size ≤ maxLen := by rw [Lib.size_eq]; simp only [maxLen]; simp; omega
  simp [keyOf, Tryd.underlying9, mapKey, this]

set_option maxRecDepth 100000 in
set_option maxHeartbeats 8000000 in
theorem right_any (A : Option Addr) (n c : Nat) (l : List Rt) (w : World) (m : Int) (hm : w.cell? ⟨0, 0, none⟩ = some (.int .i64 m)) (hr : RdE encR 2 w (.slice A n c) l) (hs : ∀ r ∈ l, r.1.length ≤ 1000000) (hl : l.length ≤ 1000) :
    Calls Tryd.prog 13 #[.slice A n c] w fun e w' => e = .returned (.bool (rightB l)) ∧ Below w.heap.size w w' := by
  have hn := hr.len
  have HR := Lib.hid hr
  have HS := Lib.hid hs
  have HM0 := Lib.hid hm
  clear hr hs hm
  have hn1 : (n : Int) ≤ 1000 := by omega
  have hmm := @run_makeMap Tryd.prog
  go_enter Tryd.func13, Tryd.ntmps13
  go_wp2_with fail
  clear hmm
  go_loopg [12] n (fun gg s12 wr => ∃ i : Nat, s12 = .int .i64 i ∧ i ≤ n ∧ n - i ≤ gg ∧ Below w.heap.size w wr ∧ Aside (LSet Tryd.prog 9 wr w.heap.size (sLits (fsts (l.take i))) ∧ (∀ r ∈ l.take i, goodB r = true)))
  case atStart => exact ⟨0, rfl, by omega, by omega, (Below.refl _ _).alloc (Nat.le_refl _) _, LSet.made w Tryd.prog 9, by simp⟩
  case round =>
    obtain ⟨i, rfl, hi, hg, hb, HA⟩ := hrel
    have HA := Lib.hid HA.out
    have HB := Lib.hid hb
    clear hb
    by_cases hlt : i < n
    · have h2 : (i : Int) < (n : Int) := by omega
      obtain ⟨b, off, rfl, hbl, hc0⟩ := HR.out.get (by omega)
      have hll : i < l.length := by omega
      have hat : l[i]? = some l[i] := List.getElem?_eq_getElem hll
      have hmem : l[i] ∈ l := List.getElem_mem hll
      have hts : l.take (i + 1) = l.take i ++ [l[i]] := List.take_succ_eq_append_getElem hll
      have hcs : ∀ j y, (encR l[i])[j]? = some y → w.cell? ⟨b, off + i * 2 + j, none⟩ = some y := fun j y hy => hc0 i j l[i] y hat hy
      clear hc0
      generalize l[i] = x at hat hmem hts hcs
      clear hll
      obtain ⟨px, bx⟩ := x
      have k0 := (HB.out.cell (p := ⟨b, off + i * 2, none⟩) hbl).trans (hcs 0 _ rfl)
      have k1 := (HB.out.cell (p := ⟨b, off + i * 2 + 1, none⟩) hbl).trans (hcs 1 _ rfl)
      obtain ⟨A1, B1, c1, hq⟩ : ∃ A1 B1 c1, normS px = (A1, B1, c1) := ⟨_, _, _, rfl⟩
      have HQ := Lib.hid hq
      have HM := Lib.hid hmem
      have HT := Lib.hid hts
      have HBL := Lib.hid hbl
      clear hcs hmem hat hts hbl hq
      have HB2 := Lib.hid (HB.out.alloc HB.out.size (.cells #[str px, .int .i64 bx] 24))
      have HZ0 := Lib.hid (box_at (heap_alloc_new wr (.cells #[str px, .int .i64 bx] 24)) 0 _ rfl)
      have HZ1 := Lib.hid (box_at (heap_alloc_new wr (.cells #[str px, .int .i64 bx] 24)) 1 _ rfl)
      by_cases e1 : c1 = 0
      · subst e1
        by_cases e2 : A1 = px
        · subst e2
          by_cases e3 : B1 = []
          · subst e3
            have HG1 := Lib.hid (show prefixB A1 = true by unfold prefixB; rw [HQ.out]; exact decide_eq_true rfl)
            by_cases g2 : bx < 0
            · have HF := Lib.hid (rightB_not (l := l) (fun h => by have := (goodB_out (h.2.1 _ HM.out)).2.1; simp only at this; omega))
              go_wp2_with (go_at_call 19; refine (normal_any A1 _ m (pw_cell_below HB2.out HM0.out) (HS.out _ HM.out) _ _ _ HQ.out).mono ?_; rintro e w1 ⟨rfl, hb1⟩; have y0 := pw_cell_below hb1 HZ0.out; have y1 := pw_cell_below hb1 HZ1.out; have HB1 := Lib.hid (HB2.out.trans (hb1.mono HB2.out.size)); have HA1 := Lib.hid ((HA.out.1.alloc _).below hb1); clear hb1)
              go_ret
              exact ⟨ret_bool HF.out.symm, HB1.out⟩
            by_cases g3 : 8 ≤ bx
            · have HF := Lib.hid (rightB_not (l := l) (fun h => by have := (goodB_out (h.2.1 _ HM.out)).2.2; simp only at this; omega))
              go_wp2_with (go_at_call 19; refine (normal_any A1 _ m (pw_cell_below HB2.out HM0.out) (HS.out _ HM.out) _ _ _ HQ.out).mono ?_; rintro e w1 ⟨rfl, hb1⟩; have y0 := pw_cell_below hb1 HZ0.out; have y1 := pw_cell_below hb1 HZ1.out; have HB1 := Lib.hid (HB2.out.trans (hb1.mono HB2.out.size)); have HA1 := Lib.hid ((HA.out.1.alloc _).below hb1); clear hb1)
              go_ret
              exact ⟨ret_bool HF.out.symm, HB1.out⟩
            have HG := Lib.hid (goodB_of (x := (A1, bx)) HG1.out (by simp only; omega) (by simp only; omega))
            have hcnt : (sLits (fsts (l.take i))).length < 1000000 := by rw [sLits_len, fsts_len, List.length_take]; omega
            have HCN := Lib.hid hcnt
            have HKY := Lib.hid (keyOf9 A1 (HS.out _ HM.out))
            clear hcnt
            go_wp2_with first
              | (go_at_call 19; refine (normal_any A1 _ m (pw_cell_below HB2.out HM0.out) (HS.out _ HM.out) _ _ _ HQ.out).mono ?_; rintro e w1 ⟨rfl, hb1⟩; have y0 := pw_cell_below hb1 HZ0.out; have y1 := pw_cell_below hb1 HZ1.out; have HB1 := Lib.hid (HB2.out.trans (hb1.mono HB2.out.size)); have HA1 := Lib.hid ((HA.out.1.alloc _).below hb1); clear hb1)
              | (at_mapUpdate; refine wp_set_put rfl _ _ _ 43 rfl 9 46 keyed9 Tryd.underlying43 w.heap.size _ rfl HA1.out HCN.out _ _ rfl rfl HKY.out ?c3)
            case c3 =>
              intro w2 hs2 hg2
              have hB2 : Below w.heap.size w w2 := HB1.out.grown hg2 HB1.out.size (fun k hk => by cases hk; exact Nat.le_refl _)
              have HB3 := Lib.hid hB2
              have HS2 := Lib.hid hs2
              clear hB2 hs2 hg2 y0 y1
              go_wp2_with fail
              go_roundg (n - (i + 1))
              case measure => omega
              case rel =>
                refine ⟨i + 1, by simp [wrap64] <;> omega, by omega, by omega, HB3.out, ?_⟩
                show LSet Tryd.prog 9 w2 w.heap.size (sLits (fsts (l.take (i + 1)))) ∧ (∀ r ∈ l.take (i + 1), goodB r = true)
                rw [HT.out, fsts_snoc, sLits_snoc]
                refine ⟨HS2.out, fun r hr => ?_⟩
                rw [List.mem_append, List.mem_singleton] at hr
                rcases hr with hr | rfl
                · exact HA.out.2 r hr
                · exact HG.out
          · have HF := Lib.hid (rightB_not (l := l) (fun h => by have h1 := (goodB_out (h.2.1 _ HM.out)).1; unfold prefixB at h1; simp only [HQ.out, decide_eq_true_eq, Prod.mk.injEq] at h1; exact e3 h1.2.1))
            have e31 : (B1 == []) = false := by simpa using e3
            have HE := Lib.hid e3
            clear e3
            go_wp2_with (go_at_call 19; refine (normal_any A1 _ m (pw_cell_below HB2.out HM0.out) (HS.out _ HM.out) _ _ _ HQ.out).mono ?_; rintro e w1 ⟨rfl, hb1⟩; have y0 := pw_cell_below hb1 HZ0.out; have y1 := pw_cell_below hb1 HZ1.out; have HB1 := Lib.hid (HB2.out.trans (hb1.mono HB2.out.size)); have HA1 := Lib.hid ((HA.out.1.alloc _).below hb1); clear hb1)
            go_ret
            exact ⟨ret_bool HF.out.symm, HB1.out⟩
        · have HF := Lib.hid (rightB_not (l := l) (fun h => by have h1 := (goodB_out (h.2.1 _ HM.out)).1; unfold prefixB at h1; simp only [HQ.out, decide_eq_true_eq, Prod.mk.injEq] at h1; exact e2 h1.1))
          have e21 : (A1 == px) = false := by simpa using e2
          have HE := Lib.hid e2
          clear e2
          go_wp2_with (go_at_call 19; refine (normal_any px _ m (pw_cell_below HB2.out HM0.out) (HS.out _ HM.out) _ _ _ HQ.out).mono ?_; rintro e w1 ⟨rfl, hb1⟩; have y0 := pw_cell_below hb1 HZ0.out; have y1 := pw_cell_below hb1 HZ1.out; have HB1 := Lib.hid (HB2.out.trans (hb1.mono HB2.out.size)); have HA1 := Lib.hid ((HA.out.1.alloc _).below hb1); clear hb1)
          go_ret
          exact ⟨ret_bool HF.out.symm, HB1.out⟩
      · have HF := Lib.hid (rightB_not (l := l) (fun h => by have h1 := (goodB_out (h.2.1 _ HM.out)).1; unfold prefixB at h1; simp only [HQ.out, decide_eq_true_eq, Prod.mk.injEq] at h1; exact e1 h1.2.2))
        have e11 : ¬ (c1 : Int) = 0 := by omega
        have HE := Lib.hid e1
        clear e1
        go_wp2_with (go_at_call 19; refine (normal_any px _ m (pw_cell_below HB2.out HM0.out) (HS.out _ HM.out) _ _ _ HQ.out).mono ?_; rintro e w1 ⟨rfl, hb1⟩; have y0 := pw_cell_below hb1 HZ0.out; have y1 := pw_cell_below hb1 HZ1.out; have HB1 := Lib.hid (HB2.out.trans (hb1.mono HB2.out.size)); have HA1 := Lib.hid ((HA.out.1.alloc _).below hb1); clear hb1)
        go_ret
        exact ⟨ret_bool HF.out.symm, HB1.out⟩
    · have h2 : ¬ (i : Int) < (n : Int) := by omega
      obtain rfl : i = n := by omega
      have hall : l.take i = l := List.take_of_length_le (by omega)
      have hA := HA.out
      rw [hall] at hA
      have HL := Lib.hid hA.1
      have HGD := Lib.hid hA.2
      clear hA hall
      by_cases e1 : i ≤ 10
      · have e11 : (i : Int) ≤ 10 := by omega
        obtain ⟨dc, hdc⟩ : ∃ dc, dcount (sLits (fsts l)) = dc := ⟨_, rfl⟩
        have hde := dcount_eq (sLits_key (fsts l))
        rw [sLits_nodup, sLits_len, fsts_len, hdc, hn] at hde
        have HDC := Lib.hid hdc
        by_cases e3 : dc = i
        · have HF := Lib.hid (rightB_of (l := l) (by omega) HGD.out (hde.1 e3))
          have e3' : ((dc : Int) == (i : Int)) = true := by simp [e3]
          have HE := Lib.hid e3
          clear e3 hde hdc
          go_wp2_with (at_len; refine wp_set_len_g (by rfl) _ 43 rfl 9 46 Tryd.underlying43 w.heap.size _ rfl HL.out ?_; rw [HDC.out])
          go_ret
          exact ⟨ret_bool HF.out.symm, HB.out⟩
        · have HF := Lib.hid (rightB_not (l := l) (fun h => e3 (hde.2 h.2.2)))
          have e3' : ((dc : Int) == (i : Int)) = false := by simp; omega
          have HE := Lib.hid e3
          clear e3 hde hdc
          go_wp2_with (at_len; refine wp_set_len_g (by rfl) _ 43 rfl 9 46 Tryd.underlying43 w.heap.size _ rfl HL.out ?_; rw [HDC.out])
          go_ret
          exact ⟨ret_bool HF.out.symm, HB.out⟩
      · have e11 : ¬ (i : Int) ≤ 10 := by omega
        have HF := Lib.hid (rightB_not (l := l) (fun h => by have := h.1; omega))
        go_wp2_with fail
        go_ret
        exact ⟨ret_bool HF.out.symm, HB.out⟩
end Go.Proofs.YtoegjpfngmilhaaDoor
