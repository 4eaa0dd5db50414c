/- lockagelaw14.RouteMade. -/
import Derived.Test.YtoegjpfngmilhaaDoorUO
set_option linter.unusedVariables false
set_option linter.unusedSimpArgs false
namespace Go.Proofs.YtoegjpfngmilhaaDoor
open Go.RowKit Go.Lib
open Go.Proofs.YtoegjpfngmilhaaDoorW.PrintWords

theorem mod4 (t : Nat) : t % 4 = 0 ∨ t % 4 = 1 ∨ t % 4 = 2 ∨ t % 4 = 3 := by omega
theorem tdivN (t k : Nat) : (t : Int).tdiv (k : Int) = ((t / k : Nat) : Int) := (Int.ofNat_tdiv t k).symm
def okR (l : List Rt) : Prop := l.length ≤ 10 ∧ ∀ r ∈ l, r.1.length ≤ 1000
theorem okR_made (ls : List (List Nat)) : okR (madeS ls) := by
  obtain ⟨h1, h2, h3⟩ := madeW ls
  exact ⟨by omega, fun r hr => by have := (h2 r hr).2; omega⟩

theorem okR_set {l : List Rt} (h : okR l) {i : Nat} {y : Rt} (hy : y.1.length ≤ 1000 + 100) : (l.set i y).length ≤ 11 ∧ ∀ r ∈ l.set i y, r.1.length ≤ 1100 := by
  refine ⟨by rw [List.length_set]; have := h.1; omega, fun r hr => ?_⟩
  rcases List.mem_or_eq_of_mem_set hr with hr | rfl
  · have := h.2 r hr; omega
  · omega

set_option maxRecDepth 100000 in
set_option maxHeartbeats 16000000 in
theorem routeMade_any (A B : Option Addr) (n c nb cb : Nat) (ls : List (List Nat)) (xs : List Nat) (more : List UInt8) (h : Nat) (N : Int) (w : World) (m : Int) (hm : w.cell? ⟨0, 0, none⟩ = some (.int .i64 m))
    (hl : RdV w (.slice A n c) ls) (hp : Rd w (.slice B nb cb) (u8s xs)) (hp8 : ∀ x ∈ xs, x < 256) (hh : h < 256) :
    Calls Tryd.prog 4 #[.slice A n c, .slice B nb cb, str more, .int .u8 (h : Int), .int .i64 N] w fun e w' => e = .returned (.bool true) ∧ Below w.heap.size w w' := by
  have HM := Lib.hid hm
  have HMA := Lib.hid (made_any A n c ls w hl)
  have HPA := Lib.hid (fun W (hW : Below w.heap.size w W) => path_any B nb cb xs W (hp.below hW) hp8)
  have HRT := Lib.hid (made_right ls)
  have HOK := Lib.hid (okR_made ls)
  have HH := Lib.hid hh
  clear hm hl hp hp8 hh
  obtain ⟨k, hk⟩ : ∃ k, madeS ls = k := ⟨_, rfl⟩
  rw [hk] at HMA HRT HOK
  clear hk
  have hpl := pathS_len xs
  generalize pathS xs = p at *
  go_enter Tryd.func4, Tryd.ntmps4
  go_upto_if 20 with first
    | (go_at_call 12; refine (HPA.out _ HB1.out).mono ?_; rintro e w2 ⟨rfl, hb2⟩; have HO2 := Lib.hid (HO1.out.below hb2); have HB2 := Lib.hid (HB1.out.trans (hb2.mono HB1.out.size)); clear hb2)
    | (go_at_call 11; refine HMA.out.mono ?_; rintro e w1 ⟨Ak, nk, ck, rfl, hO, hb1⟩; have HO1 := Lib.hid hO; have HB1 := Lib.hid hb1; clear hO hb1)
  have hnk := HO2.out.rd.len
  have hk10 := HOK.out.1
  go_cut [2] from 14 to 88 (fun s2 wx => ∃ mo : List UInt8, s2 = str mo ∧ mo.length ≤ 100 ∧ wx = w2)
  case first =>
    by_cases h100 : 100 < more.length
    · have h1 : (100 : Int) < (more.length : Int) := by omega
      go_wp2_with fail
      go_meet
      case rel => exact ⟨[], rfl, by simp, rfl⟩
    · have h1 : ¬ (100 : Int) < (more.length : Int) := by omega
      go_wp2_with fail
      go_meet
      case rel => exact ⟨more, rfl, by omega, rfl⟩
  case rest =>
    obtain ⟨mo, rfl, hmo, rfl⟩ := hcut
    have hcat : (⟨p.toArray⟩ : ByteArray) ++ ⟨mo.toArray⟩ = ⟨(p ++ mo).toArray⟩ := bytes_app p mo
    have hcl : (p ++ mo).length ≤ 116 := by rw [List.length_append]; omega
    have HSA := Lib.hid (fun W (hW : Below w.heap.size w W) (hW2 : Below wc.heap.size wc W) (q : List UInt8) (hq : q.length ≤ 116) => same_any Ak nk ck k q W m (pw_cell_below hW HM.out) ((HO2.out.below hW2).rd) (fun r hr => by have := HOK.out.2 r hr; omega) (by omega) (by omega))
    have HRA := Lib.hid (fun W (hW : Below w.heap.size w W) (hW2 : Below wc.heap.size wc W) => right_any Ak nk ck k W m (pw_cell_below hW HM.out) ((HO2.out.below hW2).rd) (fun r hr => by have := HOK.out.2 r hr; omega) (by omega))
    go_upto_if 40 with first
      | (go_at_call 13; refine (HRA.out _ HB4.out HC4.out).mono ?_; rw [HRT.out]; rintro e w5 ⟨rfl, hb5⟩; have HB5 := Lib.hid (HB4.out.trans (hb5.mono HB4.out.size)); have HC5 := Lib.hid (HC4.out.trans (hb5.mono HC4.out.size)); clear hb5)
      | (go_at_call 8; refine (HSA.out _ HB3.out HC3.out (p ++ mo) hcl).mono ?_; rintro e w4 ⟨rfl, hb4⟩; have HB4 := Lib.hid (HB3.out.trans (hb4.mono HB3.out.size)); have HC4 := Lib.hid (HC3.out.trans (hb4.mono HC3.out.size)); clear hb4)
      | (go_at_call 8; refine (HSA.out _ HB2.out (Below.refl _ _) p (by omega)).mono ?_; rintro e w3 ⟨rfl, hb3⟩; have HB3 := Lib.hid (HB2.out.trans (hb3.mono HB2.out.size)); have HC3 := Lib.hid hb3; clear hb3)
    have HO5 := Lib.hid (HO2.out.below HC5.out)
    go_cut [11] from 38 to 88 (fun s11 wx => ∃ A1 n1 c1 es, s11 = .slice A1 n1 c1 ∧ Below w.heap.size w wx ∧ Aside (RdE encR 2 wx (.slice A1 n1 c1) es ∧ es.length ≤ 11 ∧ ∀ r ∈ es, r.1.length ≤ 1100))
    case first =>
      by_cases hz : nk = 0
      · have hz1 : ¬ (0 : Int) < (nk : Int) := by omega
        have HZ := Lib.hid hz
        clear hz
        go_wp2_with fail
        go_meet
        case rel => exact ⟨_, _, _, k, rfl, HB5.out, HO5.out.rd, (by have := HOK.out.1; omega), fun r hr => by have := HOK.out.2 r hr; omega⟩
      · have hz1 : (0 : Int) < (nk : Int) := by omega
        obtain ⟨q0, hq0⟩ : ∃ q, h / 4 = q := ⟨_, rfl⟩
        have hd1 : (h : Int).tdiv 4 = (q0 : Int) := by rw [← hq0]; exact tdivN h 4
        obtain ⟨i0, hi0⟩ : ∃ i, q0 % nk = i := ⟨_, rfl⟩
        have hd2 : (q0 : Int).tmod (nk : Int) = (i0 : Int) := tmodN nk hi0
        have hin : i0 < nk := by rw [← hi0]; exact Nat.mod_lt _ (by omega)
        have hq64 : q0 < 64 := by have := HH.out; omega
        have hwh := wr8 HH.out
        clear hq0 hi0
        have hin1 : (i0 : Int) < (nk : Int) := by omega
        have hkl : i0 < k.length := by omega
        have hat : k[i0]? = some k[i0] := List.getElem?_eq_getElem hkl
        generalize k[i0] = y at hat
        clear hkl
        obtain ⟨yp, yb⟩ := y
        obtain ⟨b, off, hA, hb0, ⟨cur, hcur⟩, hnc, hcell, hfz⟩ := HO5.out.form (by omega)
        subst hA
        have c0 : w5.cell? ⟨b, off + i0 * 2, none⟩ = some (str yp) := hcell i0 0 _ _ hat rfl
        have c1 : w5.cell? ⟨b, off + i0 * 2 + 1, none⟩ = some (.int .i64 yb) := hcell i0 1 _ _ hat rfl
        have HAT := Lib.hid hat
        have hyl := HOK.out.2 _ (List.mem_of_getElem? hat)
        simp only at hyl
        clear hcell hat hcur
        rcases mod4 h with h4 | h4 | h4 | h4
        · have h41 : (h : Int).tmod 4 = 0 := tmodN 4 h4
          have H4 := Lib.hid h4
          clear h4
          go_wp2_with fail
          go_meet
          case rel =>
            have hS := HO5.out.set (y' := ((yp, N) : Rt)) HAT.out (show 1 < 2 by decide) (x := .int .i64 N) rfl
            exact ⟨_, _, _, k.set i0 (yp, N), rfl, HB5.out.setCell (by simpa using hb0) _, hS.rd, okR_set HOK.out (by simp only; omega)⟩
        · have h41 : (h : Int).tmod 4 = 1 := tmodN 4 h4
          have H4 := Lib.hid h4
          clear h4
          go_wp2_with fail
          go_meet
          case rel =>
            have hS := HO5.out.set (y' := ((mo, yb) : Rt)) HAT.out (show 0 < 2 by decide) (x := str mo) rfl
            exact ⟨_, _, _, k.set i0 (mo, yb), rfl, HB5.out.setCell (by simpa using hb0) _, hS.rd, okR_set HOK.out (by simp only; omega)⟩
        · have h41 : (h : Int).tmod 4 = 2 := tmodN 4 h4
          have H4 := Lib.hid h4
          clear h4
          go_wp2_with (at_builtin; refine wp_appE w.heap.size rfl _ _ 22 24 (.agg #[.string ByteArray.empty, .int .i64 0]) 24 rfl Tryd.underlying22 info24 rfl (by omega) (by omega) _ _ k [(yp, yb)] rfl rfl ?c1 ?c2 encR_one ?c3 ?c4 ?c5)
          case c1 => exact HO5.out.below ((Below.refl _ _).alloc (Nat.le_refl _) _)
          case c2 => exact rd_boxE w5 ((yp, yb) : Rt) 24
          case c3 => (try simp only [List.length_cons, List.length_nil]); omega
          case c4 => have := HB5.out.size; (try simp); omega
          case c5 =>
            intro v1 w6 hv1 hg1 hat1
            obtain ⟨A1, n1, c1, rfl⟩ := hv1.slice'
            have hb3 := HB5.out.alloc HB5.out.size (.cells #[str yp, .int .i64 yb] 24)
            have HB6 := Lib.hid (hb3.grown hg1 hb3.size (fun q hq => HO5.out.lo q hq))
            have HV := Lib.hid hv1
            clear hv1 hg1 hat1 hb3
            go_wp2_with fail
            go_meet
            case rel =>
              exact ⟨_, _, _, k ++ [(yp, yb)], rfl, HB6.out, HV.out.rd, by simp; omega, fun r hr => by
                rw [List.mem_append, List.mem_singleton] at hr
                rcases hr with hr | rfl
                · have := HOK.out.2 r hr; omega
                · simp only; omega⟩
        · have h41 : (h : Int).tmod 4 = 3 := tmodN 4 h4
          have H4 := Lib.hid h4
          clear h4
          have hca : (⟨yp.toArray⟩ : ByteArray) ++ ⟨mo.toArray⟩ = ⟨(yp ++ mo).toArray⟩ := bytes_app yp mo
          go_wp2_with fail
          go_meet
          case rel =>
            have hS := HO5.out.set (y' := ((yp ++ mo, yb) : Rt)) HAT.out (show 0 < 2 by decide) (x := str (yp ++ mo)) rfl
            exact ⟨_, _, _, k.set i0 (yp ++ mo, yb), rfl, HB5.out.setCell (by simpa using hb0) _, hS.rd, okR_set HOK.out (by simp only [List.length_append]; omega)⟩
    case rest =>
      obtain ⟨A1, n1, c1, es, rfl, hb6, HR6⟩ := hcut
      have HR6' := Lib.hid HR6.out
      have HB6 := Lib.hid hb6
      clear HR6 hb6
      go_wp2_with first
        | (go_at_call 8; refine (same_any A1 n1 c1 es p _ m (pw_cell_below HB7.out HM.out) (HR6'.out.1.below HC7.out) (fun r hr => by have := HR6'.out.2.2 r hr; omega) (by have := HR6'.out.2.1; omega) (by omega)).mono ?_; rintro e w8 ⟨rfl, hb8⟩; have HB8 := Lib.hid (HB7.out.trans (hb8.mono HB7.out.size)); clear hb8)
        | (go_at_call 7; refine (awake_any _ m (pw_cell_below HB6.out HM.out)).mono ?_; rintro e w7 ⟨rfl, hb7⟩; have HB7 := Lib.hid (HB6.out.trans (hb7.mono HB6.out.size)); have HC7 := Lib.hid hb7; clear hb7)
      go_ret
      exact ⟨rfl, HB8.out⟩
end Go.Proofs.YtoegjpfngmilhaaDoor
