/- Contract of lockagelaw17.PoolSpoilt. -/
import Derived.Test.YtjomenldmojnjaaAD
set_option linter.unusedVariables false
set_option linter.unusedSimpArgs false
namespace Go.Proofs.Ytjomenldmojnjaa
open Go.RowKit
open Go.Proofs.YtjomenldmojnjaaW.PrintWords

def fail5 (b : Bk) : Bk := { b with f := 5 }
theorem at_app {α : Type} {l : List α} {i : Nat} {b : α} (hb : l[i]? = some b) : l[i]? = some b := hb
theorem half_at {bs : List Bk} {k : Nat} (hk : k < bs.length) : ((bs.take k).map fail5 ++ bs.drop k)[k]? = some bs[k] := by
  rw [List.getElem?_append_right (by simp; omega)]
  simp [Nat.min_eq_left (Nat.le_of_lt hk)]
theorem half_set {bs : List Bk} {k : Nat} (hk : k < bs.length) : ((bs.take k).map fail5 ++ bs.drop k).set k (fail5 bs[k]) = (bs.take (k + 1)).map fail5 ++ bs.drop (k + 1) := by
  rw [List.set_append_right _ _ (by simp; omega), List.take_succ_eq_append_getElem hk, List.map_append, List.drop_eq_getElem_cons hk]
  rw [show k - ((bs.take k).map fail5).length = 0 by simp; omega, List.set_cons_zero, List.append_assoc]
  rfl
theorem box_far {W : World} {b bx : Nat} {cs cur : Array Value} {o : Nat} {x : Value} (h : W.heap[bx]? = some (.cells cs 24 (0, 0))) (hc : W.heap[b]? = some (.cells cur 32 (0, 0))) :
    (W.setCell ⟨b, o, none⟩ x).heap[bx]? = some (.cells cs 24 (0, 0)) := by
  rw [Below.heap_setCell _ _ _ _ (by simpa using blocks_ne (show (24 : TypeId) ≠ 32 by decide) h hc)]
  exact h

set_option maxHeartbeats 8000000 in
theorem poolSpoilt_any (w : World) (Ar : Option Addr) (nr cr : Nat) (rooms : List Nat) (Al : Option Addr) (nl cl : Nat) (l : List Nat) (how at' : Nat) (x0 : Int) (hr : Rd w (.slice Ar nr cr) (u8s rooms)) (h7 : ∀ x ∈ rooms, x < 256) (hl : Rd w (.slice Al nl cl) (u8s l)) (h8 : ∀ x ∈ l, x < 256) (hhow : how < 256) (hat : at' < 256) :
    Calls Try.prog 5 #[.slice Ar nr cr, .slice Al nl cl, .int .u8 how, .int .u8 at', .int .i64 x0] w fun e w' => e = .returned (.bool true) ∧ Below w.heap.size w w' := by
  have hm := Lib.hid (made_any w Ar nr cr rooms Al nl cl l hr h7 hl h8)
  have hok := madeS_len rooms l
  generalize madeS rooms l = st at hm hok
  obtain ⟨bs, nx⟩ := st
  simp only at hok
  clear hr h7 hl h8
  go_enter Try.func5, Try.ntmps5
  go_wp2_with fail
  refine hm.out.mono ?_
  rintro e w1 ⟨A, n, c, rfl, hO, hB1⟩
  have lbs := hO.rd.len
  simp only at lbs
  obtain ⟨b, off, rfl, hb0, ⟨cur, hcur⟩, hnc, hcell, hfz⟩ := hO.form (by omega)
  have HO := Lib.hid hO
  clear hm hO
  obtain ⟨kq, hkq⟩ : ∃ kq, at' % n = kq := ⟨_, rfl⟩
  have hwi : IntKind.i64.wrap (at' : Int) = (at' : Int) := by rw [IntKind.wrap_i64]; omega
  have htm : (at' : Int).tmod (n : Int) = (kq : Int) := by rw [Int.tmod_eq_emod_of_nonneg (by omega), ← hkq]; simp
  have hq : (at' : Int) % (n : Int) = (kq : Int) := by rw [← hkq]; simp
  have hkn : kq < n := by rw [← hkq]; exact Nat.mod_lt _ (by omega)
  have hkn1 : (kq : Int) < (n : Int) := by omega
  have hn0 : ¬ n = 0 := by omega
  have hn0' : ¬ (n : Int) = 0 := by omega
  have wkq : IntKind.i64.wrap (kq : Int) = (kq : Int) := by rw [IntKind.wrap_i64]; omega
  clear hkq
  go_upto_region 2 with fail
  rename_i K hK
  have hw : Below w1.heap.size w1 (w1.alloc (.cells #[.slice (some ⟨b, off, none⟩) n c, .int .i64 nx] 24)) := (Below.refl _ _).alloc (Nat.le_refl _) _
  have x0' := heap_alloc_new w1 (.cells #[.slice (some ⟨b, off, none⟩) n c, .int .i64 nx] 24)
  have HS := Lib.hid (show SP (w1.alloc (.cells #[.slice (some ⟨b, off, none⟩) n c, .int .i64 nx] 24)) w1.heap.size (.slice (some ⟨b, off, none⟩) n c) (.int .i64 nx) (w1.alloc (.cells #[.slice (some ⟨b, off, none⟩) n c, .int .i64 nx] 24)) from
    ⟨box_at x0' 0 _ rfl, box_at x0' 1 _ rfl, Below.refl _ _⟩)
  have HT := Lib.hid (HO.out.below hw)
  have HB := Lib.hid (hB1.trans (hw.mono hB1.size))
  have HX := Lib.hid x0'
  have hbb : w.heap.size ≤ w1.heap.size := hB1.size
  clear hcell hfz hnc hcur
  generalize hW : (w1.alloc (.cells #[.slice (some ⟨b, off, none⟩) n c, .int .i64 nx] 24)) = W at *
  clear hW hw x0' HO hB1
  go_region_held3 (fun w' => w'.cell? ⟨w1.heap.size, 0, none⟩ = some (.slice (some ⟨b, off, none⟩) n c) ∧ w'.cell? ⟨w1.heap.size, 1, none⟩ = some (.int .i64 nx) ∧ Below W.heap.size W w')
    (first | exact HS.out.below (below_drew (Below.refl _ _)) | (refine SP.below ?_ ‹_›; assumption))
    (first | fail)
  have hd : Below W.heap.size W W.drew := below_drew (Below.refl _ _)
  have HX' := Lib.hid (keep hd HX.out)
  have HT' := Lib.hid (HT.out.below hd)
  have HB' := Lib.hid (HB.out.trans (hd.mono HB.out.size))
  clear HS HX HT HB hd
  generalize hW : W.drew = V at *
  clear hW
  refine hK _ _ ?_
  clear hK K
  refine wp_seq_k (fun K hK => ?_)
  obtain ⟨b, off, hA, hb0, ⟨cur, hcur⟩, hnc, hcell, hfz⟩ := HT'.out.form (by omega)
  injection hA with hA
  injection hA with hA1 hA2
  subst hA1; subst hA2
  have hy : bs[kq]? = some (bs[kq]'(by omega)) := List.getElem?_eq_getElem _
  generalize bs[kq]'(by omega) = y at hy
  have c0 : V.cell? ⟨b, off + kq * 4, none⟩ = some (.int .i64 y.o) := hcell kq 0 _ _ hy rfl
  have c1 := hcell kq 1 _ _ hy rfl
  have c2 := hcell kq 2 _ _ hy rfl
  have c3 := hcell kq 3 _ _ hy rfl
  have z0 := box_at HX'.out 0 _ rfl
  have z1 := box_at HX'.out 1 _ rfl
  have zf := box_free HX'.out
  have HCUR := Lib.hid hcur
  have hyl : kq * 4 + 3 < n * 4 := by omega
  clear hcell hcur
  go_cut [] from 12 to 77 (fun wx => ∃ A n c nx es, Aside (Below w.heap.size w wx ∧ wx.heap[w1.heap.size]? = some (.cells #[.slice A n c, .int .i64 nx] 24 (0, 0)) ∧ RdE enc 4 wx (.slice A n c) es ∧ es.length ≤ 8))
  case first =>
    obtain ⟨m7, hm7⟩ : ∃ m, how % 7 = m := ⟨_, rfl⟩
    have hm7' : m7 < 7 := by rw [← hm7]; exact Nat.mod_lt _ (by omega)
    have hq7 : (how : Int) % 7 = (m7 : Int) := by omega
    clear hm7
    obtain rfl | rfl | rfl | rfl | rfl | rfl | rfl : m7 = 0 ∨ m7 = 1 ∨ m7 = 2 ∨ m7 = 3 ∨ m7 = 4 ∨ m7 = 5 ∨ m7 = 6 := by omega
    · have hq7' : (how : Int) % 7 = (0 : Int) := hq7
      clear hq7
      go_wp2_with fail
      go_meet
      refine ⟨some ⟨b, off, none⟩, n, c, nx, bs.set kq ⟨x0, y.r, y.i, y.f⟩, ?_⟩
      show Aside _
      have hS := HT'.out.set (y' := (⟨x0, y.r, y.i, y.f⟩ : Bk)) hy (show 0 < 4 by decide) (x := .int .i64 x0) rfl
      exact ⟨HB'.out.setCell (by simpa using hb0) _, box_far HX'.out HCUR.out, hS.rd, by simp; omega⟩
    · have hq7' : (how : Int) % 7 = (1 : Int) := hq7
      clear hq7
      go_wp2_with fail
      go_meet
      refine ⟨some ⟨b, off, none⟩, n, c, nx, bs.set kq ⟨y.o, x0, y.i, y.f⟩, ?_⟩
      show Aside _
      have hS := HT'.out.set (y' := (⟨y.o, x0, y.i, y.f⟩ : Bk)) hy (show 1 < 4 by decide) (x := .int .i64 x0) rfl
      exact ⟨HB'.out.setCell (by simpa using hb0) _, box_far HX'.out HCUR.out, hS.rd, by simp; omega⟩
    · have hq7' : (how : Int) % 7 = (2 : Int) := hq7
      clear hq7
      go_wp2_with fail
      go_meet
      refine ⟨some ⟨b, off, none⟩, n, c, nx, bs.set kq ⟨y.o, y.r, x0, y.f⟩, ?_⟩
      show Aside _
      have hS := HT'.out.set (y' := (⟨y.o, y.r, x0, y.f⟩ : Bk)) hy (show 2 < 4 by decide) (x := .int .i64 x0) rfl
      exact ⟨HB'.out.setCell (by simpa using hb0) _, box_far HX'.out HCUR.out, hS.rd, by simp; omega⟩
    · have hq7' : (how : Int) % 7 = (3 : Int) := hq7
      clear hq7
      go_wp2_with fail
      go_meet
      refine ⟨some ⟨b, off, none⟩, n, c, nx, bs.set kq ⟨y.o, y.r, y.i, x0⟩, ?_⟩
      show Aside _
      have hS := HT'.out.set (y' := (⟨y.o, y.r, y.i, x0⟩ : Bk)) hy (show 3 < 4 by decide) (x := .int .i64 x0) rfl
      exact ⟨HB'.out.setCell (by simpa using hb0) _, box_far HX'.out HCUR.out, hS.rd, by simp; omega⟩
    · have hq7' : (how : Int) % 7 = (4 : Int) := hq7
      clear hq7
      go_wp2_with fail
      go_meet
      refine ⟨some ⟨b, off, none⟩, n, c, x0, bs, ?_⟩
      show Aside _
      refine ⟨HB'.out.setCell (by simp; omega) _, ?_, ?_, by omega⟩
      · rw [heap_set HX'.out _ (o := 1)]
        rfl
      · exact (HT'.out.far (fun k hk => by
          obtain ⟨cur', hcur'⟩ := HT'.out.typed k hk
          exact blocks_ne (by decide) hcur' HX'.out) _).rd
    · have hq7' : (how : Int) % 7 = (5 : Int) := hq7
      clear hq7
      have h2 : (at' : Int) % 2 = ((at' % 2 : Nat) : Int) := by omega
      obtain ⟨k2, hk2⟩ : ∃ k, at' % 2 = k := ⟨_, rfl⟩
      rw [hk2] at h2
      have hk2' : k2 < 2 := by rw [← hk2]; exact Nat.mod_lt _ (by omega)
      clear hk2
      have hl0 := lbs
      go_wp2_with fail
      go_loopg [13] n (fun gg s13 wr => ∃ kk : Nat, kk ≤ n ∧ n - kk ≤ gg ∧ s13 = .int .i64 kk ∧ Below w.heap.size w wr ∧
        Aside (wr.heap[w1.heap.size]? = some (.cells #[.slice (some ⟨b, off, none⟩) n c, .int .i64 nx] 24 (0, 0)) ∧ OwE enc 4 32 wr w.heap.size (.slice (some ⟨b, off, none⟩) n c) ((bs.take kk).map fail5 ++ bs.drop kk)))
      case atStart =>
        refine ⟨0, by omega, by omega, rfl, HB'.out, ?_⟩
        show Aside _
        exact ⟨HX'.out, by simpa using HT'.out⟩
      case round =>
        obtain ⟨kk, hkk, hg, rfl, hB, HA⟩ := hrel
        obtain ⟨h6, hO⟩ := HA.out
        clear HA z0 z1 zf c0 c1 c2 c3 hfz HCUR
        obtain ⟨b, off, hA, hb0, ⟨cur, hcur⟩, hnc, hcell, hfz⟩ := hO.form (by omega)
        injection hA with hA
        injection hA with hA1 hA2
        subst hA1; subst hA2
        have HO := Lib.hid hO
        have H6 := Lib.hid h6
        have HCUR := Lib.hid hcur
        have z0 := box_at h6 0 _ rfl
        have z1 := box_at h6 1 _ rfl
        have zf := box_free h6
        clear hO h6 hcur
        by_cases hlt : kk < n
        · have hlt1 : (kk : Int) < (n : Int) := by omega
          have hyk := half_at (bs := bs) (k := kk) (by omega)
          have hsk := half_set (bs := bs) (k := kk) (by omega)
          generalize bs[kk]'(by omega) = yk at hyk hsk
          have d3 := hcell kk 3 _ _ hyk rfl
          have HY := Lib.hid hyk
          have HSK := Lib.hid hsk
          clear hcell hyk hsk hy
          go_wp2_with fail
          go_roundg (n - (kk + 1))
          case measure => omega
          case rel =>
            refine ⟨kk + 1, by omega, by omega, by simp, hB.setCell (by simpa using hb0) _, ?_⟩
            show Aside _
            have hS := HO.out.set (y' := fail5 yk) HY.out (show 3 < 4 by decide) (x := .int .i64 5) rfl
            rw [HSK.out] at hS
            exact ⟨box_far H6.out HCUR.out, hS⟩
        · have hkm : kk = n := by omega
          have hlt1 : ¬ (kk : Int) < (n : Int) := by omega
          have hfin : (bs.take kk).map fail5 ++ bs.drop kk = bs.map fail5 := by
            rw [List.take_of_length_le (by omega), List.drop_of_length_le (by omega), List.append_nil]
          have hyf : (bs.map fail5)[kq]? = some (fail5 y) := by rw [List.getElem?_map, hy]; rfl
          have hw5 : IntKind.i64.wrap (5 - (k2 : Int)) = 5 - (k2 : Int) := by rw [IntKind.wrap_i64]; omega
          have hO := HO.out
          rw [hfin] at hcell hO
          have d3 := hcell kq 3 _ _ hyf rfl
          have HO := Lib.hid hO
          have HYF := Lib.hid hyf
          clear hcell hfin hO hyf hy hkm
          go_wp2_with fail
          go_meet
          refine ⟨some ⟨b, off, none⟩, n, c, nx, (bs.map fail5).set kq ⟨y.o, y.r, y.i, 5 - (k2 : Int)⟩, ?_⟩
          show Aside _
          have hS := HO.out.set (y' := (⟨y.o, y.r, y.i, 5 - (k2 : Int)⟩ : Bk)) HYF.out (show 3 < 4 by decide) (x := .int .i64 (5 - (k2 : Int))) rfl
          exact ⟨hB.setCell (by simpa using hb0) _, box_far H6.out HCUR.out, hS.rd, by simp; omega⟩
    · have hq7' : (how : Int) % 7 = (6 : Int) := hq7
      clear hq7
      go_wp2_with fail
      go_meet
      refine ⟨none, 0, 0, nx, [], ?_⟩
      show Aside _
      refine ⟨HB'.out.setCell (by simp; omega) _, ?_, RdE.nil _ _ _, by simp⟩
      rw [heap_set HX'.out _ (o := 0)]
      rfl
  case rest =>
    obtain ⟨A, n, c, ny, es, HA⟩ := hcut
    obtain ⟨k1, k2, k3, k4⟩ := HA.out
    have HB6 := Lib.hid k1
    have HR6 := Lib.hid k3
    have HX6 := Lib.hid k2
    clear HA k1 k2 k3 z0 z1 zf c0 c1 c2 c3 hfz HCUR hy HX' HT' HB'
    have h8' : (at' : Int) % 8 = ((at' % 8 : Nat) : Int) := by omega
    obtain ⟨k8, hk8⟩ : ∃ k, at' % 8 = k := ⟨_, rfl⟩
    rw [hk8] at h8'
    clear hk8 hq
    go_wp2_with (first
      | (go_at_call 8; refine (awake_any _).mono ?_; rintro e w6 ⟨rfl, hb6⟩; have X6 := keep hb6 HX6.out; have z0 := box_at X6 0 _ rfl; have z1 := box_at X6 1 _ rfl; replace HR6 := Lib.hid (HR6.out.below hb6); replace HB6 := Lib.hid (HB6.out.trans (hb6.mono HB6.out.size)); replace HX6 := Lib.hid X6; clear hb6 X6)
      | (go_at_call 9; refine (told_any _ _ _ _ _ es _ _ _ HR6.out (by omega)).mono ?_; rintro e w6 ⟨rfl, hb6⟩; have X6 := keep hb6 HX6.out; clear z0 z1; have z0 := box_at X6 0 _ rfl; have z1 := box_at X6 1 _ rfl; replace HR6 := Lib.hid (HR6.out.below hb6); replace HB6 := Lib.hid (HB6.out.trans (hb6.mono HB6.out.size)); replace HX6 := Lib.hid X6; clear hb6 X6))
    go_ret
    exact ⟨by simp, HB6.out⟩
end Go.Proofs.Ytjomenldmojnjaa
