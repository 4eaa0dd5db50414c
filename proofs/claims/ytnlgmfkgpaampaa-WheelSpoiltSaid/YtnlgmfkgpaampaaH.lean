/- wheel.Right. -/
import Derived.Test.YtnlgmfkgpaampaaG
import Derived.Test.YtnlgmfkgpaampaaS
set_option linter.unusedVariables false
set_option linter.unusedSimpArgs false
namespace Go.Proofs.Ytnlgmfkgpaampaa
open Go.RowKit Go.Maps
open Go.Proofs.YtnlgmfkgpaampaaW.PrintWords

theorem zero56 (w : World) : (zeroValue 56).run Try.prog w = .ok (.agg #[]) w := by kernel_rfl
theorem keyed3 : Keyed Try.prog 3 := int_keyed Try.underlying3

def okT (nw : Int) (i : Nat) (t : Tm) : Prop := 0 ≤ t.id ∧ nw < t.at' ∧ t.at' ≤ 9007199254740992 ∧ t.at'.tmod 8 = i
instance (nw : Int) (i : Nat) (t : Tm) : Decidable (okT nw i t) := by unfold okT; exact inferInstance
def idsOf (l : List Tm) : List Int := l.map Tm.id
def RightW (nw : Int) (ts : Nat → List Tm) : Prop := (0 ≤ nw ∧ nw ≤ 9007199254740992) ∧ (allT ts 8).length ≤ 64 ∧ (∀ i, i < 8 → ∀ t ∈ ts i, okT nw i t) ∧ (idsOf (allT ts 8)).Nodup
noncomputable def rightB (nw : Int) (ts : Nat → List Tm) : Bool := by classical exact decide (RightW nw ts)
theorem rightB_iff {nw : Int} {ts : Nat → List Tm} : rightB nw ts = true ↔ RightW nw ts := by simp [rightB]
theorem rightB_no {nw : Int} {ts : Nat → List Tm} (h : ¬ RightW nw ts) : rightB nw ts = false := by simp [rightB, h]
theorem rightB_yes {nw : Int} {ts : Nat → List Tm} (h : RightW nw ts) : rightB nw ts = true := rightB_iff.2 h
theorem BoxW.grown {w w1 : World} {bx : Nat} {nw : Int} {S : Nat → Value} {row : Option Nat} (h : BoxW w bx nw S) (hg : w.grownBy w1 row) (hne : some bx ≠ row) : BoxW w1 bx nw S := by
  have hl := h.lt
  obtain ⟨cur, hc, h2⟩ := h
  exact ⟨cur, by rw [hg.block bx hl hne]; exact hc, h2⟩

section
variable {P : Program} {ops : Array Oper} {rest : List Oper} {o : Oper} {a : Act} {Q : Exit → Act → World → Prop} {W : World}
theorem wp_set_len_g (hw : Region.wanted o (yielded ops a.tmps) = true) (m : Operand) (t : TypeId) (hop : o.op = Op.call { callee := Callee.builtin Builtin.len, args := #[m], argTypes := #[t] })
    (k e : TypeId) (ht : P.underlying t = some (.map k e)) (b : Nat) (ls : List Lit) (hm : a.eval m = .map (some b)) (hs : LSet P k W b ls)
    (hK : wpList P ops Q rest (a.put o.dst (.int .i64 (dcount ls))) W) :
    wpList P ops Q (o :: rest) a W := by
  refine wpList_step fun K' hK' => ?_
  rw [if_pos hw]
  unfold Oper.wp
  simp [execOp, hop, resolve, invoke, builtin, hm, hs.1.len ht o.type, Result.andThen]
  refine hK' _ _ ?_
  rw [size_setOf _ _ hs.2]
  exact hK
end
theorem idsOf_app (a b : List Tm) : idsOf (a ++ b) = idsOf a ++ idsOf b := by simp [idsOf]
theorem wf_id {x : Int} (h0 : 0 ≤ x) (h : x ≤ 9223372036854775807) : (Lit.int .i64 x).wf = true := by
  simp [Lit.wf, IntKind.max, IntKind.min, IntKind.signed, IntKind.bits]
  omega
/-- what Right knows of the slots till now -/
def SoFar (nw : Int) (ts : Nat → List Tm) (kk : Nat) (l : List Tm) : Prop := (∀ i, i < kk → ∀ t ∈ ts i, okT nw i t) ∧ ∀ t ∈ l, okT nw kk t

set_option maxHeartbeats 8000000 in
theorem right_any (w : World) (nw : Int) (A : Nat → Option Addr) (n c : Nat → Nat) (ts : Nat → List Tm) (hr : WhR w A n c ts) (ht : tot n 8 ≤ 9000) (hwf : ∀ i, i < 8 → ∀ t ∈ ts i, t.id ≤ 9223372036854775807) :
    Calls Try.prog 14 #[.agg #[.int .i64 nw, .slice (A 0) (n 0) (c 0), .slice (A 1) (n 1) (c 1), .slice (A 2) (n 2) (c 2), .slice (A 3) (n 3) (c 3), .slice (A 4) (n 4) (c 4), .slice (A 5) (n 5) (c 5), .slice (A 6) (n 6) (c 6), .slice (A 7) (n 7) (c 7)]] w fun e w' => e = .returned (.bool (rightB nw ts)) ∧ Below w.heap.size w w' := by
  have HB := Lib.hid (BoxW.alloc w nw (fun i => .slice (A i) (n i) (c i)))
  have hal : Below w.heap.size w (w.alloc (.cells #[.int .i64 nw, .slice (A 0) (n 0) (c 0), .slice (A 1) (n 1) (c 1), .slice (A 2) (n 2) (c 2), .slice (A 3) (n 3) (c 3), .slice (A 4) (n 4) (c 4), .slice (A 5) (n 5) (c 5), .slice (A 6) (n 6) (c 6), .slice (A 7) (n 7) (c 7)] 25)) := (Below.refl _ _).alloc (Nat.le_refl _) _
  have HW := Lib.hid hal
  have HR := Lib.hid (hr.below hal)
  have hln := hr.len
  have HR0 := Lib.hid hr
  clear hr hal
  have hmm := @run_makeMap Try.prog
  go_enter Try.func14, Try.ntmps14
  go_wp2_with fail
  clear hmm
  have hS0 := LSet.made (w.alloc (.cells #[.int .i64 nw, .slice (A 0) (n 0) (c 0), .slice (A 1) (n 1) (c 1), .slice (A 2) (n 2) (c 2), .slice (A 3) (n 3) (c 3), .slice (A 4) (n 4) (c 4), .slice (A 5) (n 5) (c 5), .slice (A 6) (n 6) (c 6), .slice (A 7) (n 7) (c 7)] 25)) Try.prog 3
  generalize hV : w.alloc (.cells #[.int .i64 nw, .slice (A 0) (n 0) (c 0), .slice (A 1) (n 1) (c 1), .slice (A 2) (n 2) (c 2), .slice (A 3) (n 3) (c 3), .slice (A 4) (n 4) (c 4), .slice (A 5) (n 5) (c 5), .slice (A 6) (n 6) (c 6), .slice (A 7) (n 7) (c 7)] 25) = V at *
  have sV : V.heap.size = w.heap.size + 1 := by rw [← hV]; simp
  clear hV
  rw [sV] at hS0
  have hal : Below V.heap.size V (V.alloc (.map #[] 0)) := (Below.refl _ _).alloc (Nat.le_refl _) _
  have HS := Lib.hid hS0
  replace HB := Lib.hid (HB.out.below hal)
  replace HR := Lib.hid (HR.out.below hal)
  replace HW := Lib.hid (HW.out.trans (hal.mono (by omega)))
  generalize V.alloc (.map #[] 0) = M at *
  clear hal sV hS0
  go_loopg [12] 8 (fun gg s12 wr => ∃ kk : Nat, kk ≤ 8 ∧ 8 - kk ≤ gg ∧ s12 = .int .i64 kk ∧ Aside (LSet Try.prog 3 wr (w.heap.size + 1) (iLits (idsOf (allT ts kk))) ∧ BoxW wr w.heap.size nw (fun i => .slice (A i) (n i) (c i)) ∧ WhR wr A n c ts ∧ Below w.heap.size w wr ∧ SoFar nw ts kk []))
  case atStart =>
    refine ⟨0, by omega, by omega, rfl, ?_⟩
    show Aside _
    exact ⟨HS.out, HB.out, HR.out, HW.out, ⟨fun i h => absurd h (by omega), by simp⟩⟩
  case round =>
    clear HS HB HR HW
    obtain ⟨kk, hkk, hg, rfl, HA⟩ := hrel
    have HA := Lib.hid HA.out
    by_cases hlt : kk < 8
    · have hlt1 : (kk : Int) < 8 := by omega
      have hidx := idx8 A n c hlt wr
      go_upto_region 5 with fail
      clear hidx
      have hnk : tot n kk + n kk ≤ tot n 8 := tot_mono n (show kk + 1 ≤ 8 by omega)
      have hlk := hln kk hlt
      go_wp2_with fail
      go_loopg [18] (n kk) (fun gg s18 wx => ∃ jj : Nat, jj ≤ n kk ∧ n kk - jj ≤ gg ∧ s18 = .int .i64 jj ∧ Aside (LSet Try.prog 3 wx (w.heap.size + 1) (iLits (idsOf (allT ts kk ++ (ts kk).take jj))) ∧ BoxW wx w.heap.size nw (fun i => .slice (A i) (n i) (c i)) ∧ WhR wx A n c ts ∧ Below w.heap.size w wx ∧ SoFar nw ts kk ((ts kk).take jj)))
      case atStart =>
        refine ⟨0, by omega, by omega, rfl, ?_⟩
        show Aside _
        rw [List.take_zero, List.append_nil]
        exact HA.out
      case round =>
        clear HA
        obtain ⟨jj, hjj, hgj, rfl, HJ⟩ := hrel
        have HJ := Lib.hid HJ.out
        by_cases hltj : jj < n kk
        · have hltj1 : (jj : Int) < (n kk : Int) := by omega
          obtain ⟨b, off, hA, hbl, hcell⟩ := (HJ.out.2.2.1 kk hlt).get (by omega)
          have hat : (ts kk)[jj]? = some ((ts kk)[jj]'(by omega)) := List.getElem?_eq_getElem _
          have htk : (ts kk).take (jj + 1) = (ts kk).take jj ++ [(ts kk)[jj]'(by omega)] := List.take_succ_eq_append_getElem (by omega)
          have hmem : (ts kk)[jj]'(by omega) ∈ ts kk := List.getElem_mem _
          generalize (ts kk)[jj]'(by omega) = y at hat htk hmem
          have hyw := hwf kk hlt y hmem
          obtain ⟨yi, ya⟩ := y
          have k0 : wr.cell? ⟨b, off + jj * 2, none⟩ = some (.int .i64 yi) := hcell jj 0 _ _ hat rfl
          have k1 : wr.cell? ⟨b, off + jj * 2 + 1, none⟩ = some (.int .i64 ya) := hcell jj 1 _ _ hat rfl
          have HTK := Lib.hid htk
          have HMEM := Lib.hid hmem
          clear hcell hat htk hmem
          generalize n kk = nk at *
          generalize c kk = ck at *
          generalize A kk = Ak at *
          subst hA
          go_upto_region 8 with fail
          have hal : Below wr.heap.size wr (wr.alloc (.cells #[.int .i64 yi, .int .i64 ya] 34)) := (Below.refl _ _).alloc (Nat.le_refl _) _
          have hb := heap_alloc_new wr (.cells #[.int .i64 yi, .int .i64 ya] 34)
          obtain ⟨j1, j2, j3, j4, j5⟩ := HJ.out
          have HJ' := Lib.hid (show LSet Try.prog 3 (wr.alloc (.cells #[.int .i64 yi, .int .i64 ya] 34)) (w.heap.size + 1) _ ∧ BoxW (wr.alloc (.cells #[.int .i64 yi, .int .i64 ya] 34)) w.heap.size nw _ ∧ WhR (wr.alloc (.cells #[.int .i64 yi, .int .i64 ya] 34)) A n c ts ∧ Below w.heap.size w (wr.alloc (.cells #[.int .i64 yi, .int .i64 ya] 34)) ∧ SoFar nw ts kk ((ts kk).take jj) from ⟨j1.below hal, j2.below hal, j3.below hal, j4.trans (hal.mono j4.size), j5⟩)
          have hszb : w.heap.size + 1 < wr.heap.size := j1.lt
          clear j1 j2 j3 j4 j5 HJ k0 k1 hal
          generalize wr.alloc (.cells #[.int .i64 yi, .int .i64 ya] 34) = U at *
          generalize wr.heap.size = tb at *
          have y0 := box_at hb 0 _ rfl
          have y1 := box_at hb 1 _ rfl
          have z0 := HJ'.out.2.1.now
          have HB := Lib.hid hb
          clear hb
          go_cut [43] from 20 to 48 (fun s43 wx => s43 = .bool (!decide (okT nw kk ⟨yi, ya⟩)) ∧ wx = U)
          case first =>
            by_cases e0 : yi < 0
            · have HD := Lib.hid (show Value.bool true = .bool (!decide (okT nw kk ⟨yi, ya⟩)) from by rw [decide_eq_false (fun h => by unfold okT at h; simp only at h; omega)]; rfl)
              go_wp2_with fail
              go_meet
              exact ⟨HD.out, rfl⟩
            · by_cases e1 : ya ≤ nw
              · have HD := Lib.hid (show Value.bool true = .bool (!decide (okT nw kk ⟨yi, ya⟩)) from by rw [decide_eq_false (fun h => by unfold okT at h; simp only at h; omega)]; rfl)
                go_wp2_with fail
                go_meet
                exact ⟨HD.out, rfl⟩
              · by_cases e2 : 9007199254740992 < ya
                · have HD := Lib.hid (show Value.bool true = .bool (!decide (okT nw kk ⟨yi, ya⟩)) from by rw [decide_eq_false (fun h => by unfold okT at h; simp only at h; omega)]; rfl)
                  go_wp2_with fail
                  go_meet
                  exact ⟨HD.out, rfl⟩
                · obtain ⟨q, hq⟩ : ∃ q, ya.tmod 8 = q := ⟨_, rfl⟩
                  by_cases e3 : q = (kk : Int)
                  · have HD := Lib.hid (show Value.bool false = .bool (!decide (okT nw kk ⟨yi, ya⟩)) from by rw [decide_eq_true (show okT nw kk ⟨yi, ya⟩ from ⟨by simp only; omega, by simp only; omega, by simp only; omega, by simp only; omega⟩)]; rfl)
                    have e3' : (q != (kk : Int)) = false := by simp [e3]
                    go_wp2_with fail
                    go_meet
                    exact ⟨HD.out, rfl⟩
                  · have HD := Lib.hid (show Value.bool true = .bool (!decide (okT nw kk ⟨yi, ya⟩)) from by rw [decide_eq_false (fun h => by unfold okT at h; simp only at h; omega)]; rfl)
                    have e3' : (q != (kk : Int)) = true := by simp [e3]
                    go_wp2_with fail
                    go_meet
                    exact ⟨HD.out, rfl⟩
          obtain ⟨rfl, hwc⟩ := hcut
          subst hwc
          by_cases hok : okT nw kk ⟨yi, ya⟩
          · rw [decide_eq_true hok]
            have HOK := Lib.hid hok
            have hkey := wf_id hok.1 hyw
            have hcnt : (iLits (idsOf (allT ts kk ++ (ts kk).take jj))).length < 1000000 := by
              have h1 := allT_len hln kk (by omega)
              rw [iLits_len]
              unfold idsOf
              rw [List.length_map, List.length_append, List.length_take]
              omega
            have HK := Lib.hid hkey
            have HCN := Lib.hid hcnt
            clear hok hkey hcnt
            go_wp2_with (at_mapUpdate; refine wp_set_put rfl _ _ _ 55 rfl 3 56 keyed3 Try.underlying55 (w.heap.size + 1) _ rfl HJ'.out.1 HCN.out _ _ rfl rfl (keyOf_int_mk Try.underlying3 HK.out) ?c3)
            case c3 =>
              intro w2 hs2 hg2
              obtain ⟨j1, j2, j3, j4, j5⟩ := HJ'.out
              have hB2 : Below w.heap.size wc w2 := (Below.refl _ _).grown hg2 j4.size (fun k hk => by cases hk; omega)
              have h2 := j2.grown hg2 (by simp)
              have h4 := j4.trans hB2
              have h3 : WhR w2 A n c ts := HR0.out.below h4
              have HF := Lib.hid (show LSet Try.prog 3 w2 (w.heap.size + 1) _ ∧ BoxW w2 w.heap.size nw _ ∧ WhR w2 A n c ts ∧ Below w.heap.size w w2 from ⟨hs2, h2, h3, h4⟩)
              clear y0 y1 z0 hs2 hg2 hB2 h2 h3 h4 j1 j2 j3 j4 j5
              go_wp2_with fail
              go_roundg (nk - (jj + 1))
              case measure => omega
              case rel =>
                refine ⟨jj + 1, by omega, by omega, by simp, ?_⟩
                show Aside _
                rw [HTK.out]
                refine ⟨?_, HF.out.2.1, HF.out.2.2.1, HF.out.2.2.2, HJ'.out.2.2.2.2.1, fun t ht => ?_⟩
                · rw [← List.append_assoc, idsOf_app, iLits_app]
                  exact HF.out.1
                · rcases List.mem_append.1 ht with ht | ht
                  · exact HJ'.out.2.2.2.2.2 t ht
                  · rw [List.mem_singleton.1 ht]
                    exact HOK.out
          · rw [decide_eq_false hok]
            have HRT := Lib.hid (rightB_no (nw := nw) (ts := ts) fun h => hok (h.2.2.1 kk hlt _ HMEM.out))
            clear hok
            go_wp2_with fail
            go_ret
            exact ⟨ret_bool HRT.out.symm, HJ'.out.2.2.2.1⟩
        · obtain rfl : jj = n kk := by omega
          have hltj1 : ¬ ((n kk : Nat) : Int) < (n kk : Int) := by omega
          obtain ⟨j1, j2, j3, j4, j5⟩ := HJ.out
          rw [List.take_of_length_le (by omega)] at j1 j5
          have HF := Lib.hid (show _ ∧ _ ∧ _ ∧ _ ∧ _ from ⟨j1, j2, j3, j4, j5⟩)
          clear j1 j2 j3 j4 j5 HJ
          generalize n kk = nk at *
          go_wp2_with fail
          go_roundg (8 - (kk + 1))
          case measure => omega
          case rel =>
            refine ⟨kk + 1, by omega, by omega, by simp, ?_⟩
            show Aside _
            obtain ⟨j1, j2, j3, j4, j5, j6⟩ := HF.out
            rw [allT_succ]
            refine ⟨j1, j2, j3, j4, fun i hi => ?_, by simp⟩
            rcases Nat.lt_or_ge i kk with h | h
            · exact j5 i h
            · obtain rfl : i = kk := by omega
              exact j6
    · obtain rfl : kk = 8 := by omega
      obtain ⟨j1, j2, j3, j4, j5⟩ := HA.out
      have HF := Lib.hid (show LSet Try.prog 3 wr (w.heap.size + 1) (iLits (idsOf (allT ts 8))) ∧ WhR wr A n c ts ∧ SoFar nw ts 8 [] from ⟨j1, j3, j5⟩)
      have HB := Lib.hid j2
      have HB4 := Lib.hid j4
      have z0 : wr.cell? ⟨w.heap.size, 0, none⟩ = some (.int .i64 nw) := j2.now
      have z1 : wr.cell? ⟨w.heap.size, 1, none⟩ = some (.slice (A 0) (n 0) (c 0)) := j2.slot (show 0 < 8 by omega)
      have z2 : wr.cell? ⟨w.heap.size, 2, none⟩ = some (.slice (A 1) (n 1) (c 1)) := j2.slot (show 1 < 8 by omega)
      have z3 : wr.cell? ⟨w.heap.size, 3, none⟩ = some (.slice (A 2) (n 2) (c 2)) := j2.slot (show 2 < 8 by omega)
      have z4 : wr.cell? ⟨w.heap.size, 4, none⟩ = some (.slice (A 3) (n 3) (c 3)) := j2.slot (show 3 < 8 by omega)
      have z5 : wr.cell? ⟨w.heap.size, 5, none⟩ = some (.slice (A 4) (n 4) (c 4)) := j2.slot (show 4 < 8 by omega)
      have z6 : wr.cell? ⟨w.heap.size, 6, none⟩ = some (.slice (A 5) (n 5) (c 5)) := j2.slot (show 5 < 8 by omega)
      have z7 : wr.cell? ⟨w.heap.size, 7, none⟩ = some (.slice (A 6) (n 6) (c 6)) := j2.slot (show 6 < 8 by omega)
      have z8 : wr.cell? ⟨w.heap.size, 8, none⟩ = some (.slice (A 7) (n 7) (c 7)) := j2.slot (show 7 < 8 by omega)
      clear j1 j2 j3 j4 j5 HA
      go_upto_region 14 with (go_at_call 27; refine (all_any wr nw A n c ts HF.out.2.1 ht).mono ?_; rintro e w2 ⟨B, d, rfl, hO, hb2⟩; have HB2 := Lib.hid (HB4.out.trans (hb2.mono HB4.out.size)); have HS2 := Lib.hid (HF.out.1.below hb2); have y0 := (HB.out.below hb2).now; clear hO hb2 z0 z1 z2 z3 z4 z5 z6 z7 z8)
      have hla := allT_len hln 8 (Nat.le_refl _)
      have hde := dcount_eq (iLits_key (idsOf (allT ts 8)))
      rw [iLits_nodup, iLits_len, show (idsOf (allT ts 8)).length = tot n 8 by rw [← hla]; simp [idsOf]] at hde
      have HDE := Lib.hid hde
      have HSF := Lib.hid HF.out.2.2.1
      clear hde
      generalize hdc : dcount (iLits (idsOf (allT ts 8))) = dc at HDE
      have HDC := Lib.hid hdc
      have HLA := Lib.hid hla
      clear hdc hla hln
      by_cases e0 : 0 ≤ nw
      · by_cases e1 : nw ≤ 9007199254740992
        · by_cases e2 : tot n 8 ≤ 64
          · have e2' : ((tot n 8 : Nat) : Int) ≤ 64 := by omega
            by_cases e3 : dc = tot n 8
            · have HRT := Lib.hid (rightB_yes (nw := nw) (ts := ts) ⟨⟨e0, e1⟩, by rw [HLA.out]; exact e2, HSF.out, HDE.out.1 e3⟩)
              have e3' : ((dc : Int) == ((tot n 8 : Nat) : Int)) = true := by simp [e3]
              clear e3
              go_wp2_with (at_len; refine wp_set_len_g (by rfl) _ 55 rfl 3 56 Try.underlying55 (w.heap.size + 1) _ rfl HS2.out ?_; rw [HDC.out])
              go_ret
              exact ⟨ret_bool HRT.out.symm, HB2.out⟩
            · have HRT := Lib.hid (rightB_no (nw := nw) (ts := ts) fun h => e3 (HDE.out.2 h.2.2.2))
              have e3' : ((dc : Int) == ((tot n 8 : Nat) : Int)) = false := by simp; omega
              clear e3
              go_wp2_with (at_len; refine wp_set_len_g (by rfl) _ 55 rfl 3 56 Try.underlying55 (w.heap.size + 1) _ rfl HS2.out ?_; rw [HDC.out])
              go_ret
              exact ⟨ret_bool HRT.out.symm, HB2.out⟩
          · have e2' : ¬ ((tot n 8 : Nat) : Int) ≤ 64 := by omega
            have HRT := Lib.hid (rightB_no (nw := nw) (ts := ts) fun h => e2 (by rw [← HLA.out]; exact h.2.1))
            clear e2
            go_wp2_with fail
            go_ret
            exact ⟨ret_bool HRT.out.symm, HB2.out⟩
        · have HRT := Lib.hid (rightB_no (nw := nw) (ts := ts) fun h => e1 h.1.2)
          go_wp2_with fail
          go_ret
          exact ⟨ret_bool HRT.out.symm, HB2.out⟩
      · have HRT := Lib.hid (rightB_no (nw := nw) (ts := ts) fun h => e0 h.1.1)
        go_wp2_with fail
        go_ret
        exact ⟨ret_bool HRT.out.symm, HB2.out⟩
end Go.Proofs.Ytnlgmfkgpaampaa
