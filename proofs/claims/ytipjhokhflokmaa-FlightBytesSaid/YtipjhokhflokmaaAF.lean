/- flight's one.room. -/
import Derived.Test.YtipjhokhflokmaaAE
set_option linter.unusedVariables false
set_option linter.unusedSimpArgs false
namespace Go.Proofs.Ytipjhokhflokmaa
open Go.RowKit
open Go.Proofs.YtipjhokhflokmaaW.PrintWords

def fastS (x : Fl) : List Tm := x.ws.filter (fun t => !(t.at' == x.base))
def slowS (x : Fl) : List Tm := x.ws.filter (fun t => t.at' == x.base)
def trimS (x : Fl) : Fl := { x with data := x.data.drop (leastS x - x.base).toNat, base := leastS x }
/-- room is made -/
def roomS (x : Fl) : Fl × List Int × Bool :=
  if x.base < leastS x then (trimS x, [], true) else if fastS x = [] then (x, [], false) else ({ x with ws := fastS x }, (slowS x).map Tm.id, true)
def RoomPost (w : World) (base b off n c : Nat) (zs : List FV) (k : Nat) (r : Fl × List Int × Bool) (e : Ending) (w' : World) : Prop :=
  ∃ (S' : Sl) (L : Option Addr) (l d : Nat), e = .returned (.tuple #[.slice L l d, .bool r.2.2]) ∧ OwF w' base (.slice (some ⟨b, off, none⟩) n c) (zs.set k (r.1, S')) ∧ RdE ienc 1 w' (.slice L l d) r.2.1 ∧ w.grownBy w' (some b)
theorem cell_set {w : World} {p q : Addr} {v u : Value} (h : w.cell? p = some v) (hne : ¬ p.block = q.block) : (w.setCell q u).cell? p = some v := (World.cell?_of_block (w := w) (w' := w.setCell q u) (Below.heap_setCell _ _ _ _ hne)).trans h
theorem set_self {zs : List FV} {k : Nat} {y : FV} (h : zs[k]? = some y) : zs.set k y = zs := by
  obtain ⟨hk, rfl⟩ := List.getElem?_eq_some_iff.1 h
  exact List.set_getElem_self hk
theorem leastS_le (x : Fl) : leastS x ≤ endS x := leastF_le _ _
theorem OwF.far' {w : World} {base : Nat} {V : Value} {zs : List FV} (h : OwF w base V zs) {W : World} (hb : Below w.heap.size w W) : OwF W base V zs := h.below hb

set_option maxRecDepth 100000 in
set_option maxHeartbeats 8000000 in
theorem room_any (w : World) (base b off n c : Nat) (zs : List FV) (k : Nat) (x : Fl) (S : Sl) (hO : OwF w base (.slice (some ⟨b, off, none⟩) n c) zs) (hz : zs[k]? = some (x, S)) (hk : okN x) (hl : x.ws.length ≤ 1000) (hbw : base ≤ w.heap.size) :
    Calls Try.prog 27 #[ptr b (off + k * 8)] w (RoomPost w base b off n c zs k (roomS x)) := by
  have eg : ∀ args w, (callFunc 49 args).run Try.prog w = .ok (.enter 49 args) w := enters_of Try.func49 (by kernel_rfl) rfl
  have hkl := (List.getElem?_eq_some_iff.1 hz).1
  have hty := hO.o.typed b rfl
  obtain ⟨b1, off1, hA1, hFA⟩ := hO.rd.at_ hz
  injection hA1 with hA1
  injection hA1 with h1 h2
  subst h1; subst h2
  have hbl := hFA.lt
  have HL := Lib.hid (fun (W : World) (hb : Below w.heap.size w W) => least_any W b (off + k * 8) (x, S) (hFA.below hb) hk hl)
  have hal : Below w.heap.size w (w.alloc (.cells #[.pointer (some ⟨b, off + k * 8, none⟩)] 61)) := (Below.refl _ _).alloc (Nat.le_refl _) _
  have hx := heap_alloc_new w (.cells #[.pointer (some ⟨b, off + k * 8, none⟩)] 61)
  have x0 := box_at hx 0 _ rfl
  have HX := Lib.hid hx
  have HAL := Lib.hid hal
  have HO := Lib.hid hO
  have HZ := Lib.hid hz
  have HF := Lib.hid hFA
  have HTY := Lib.hid hty
  have hle := leastS_le x
  unfold endS at hle
  obtain ⟨q0, q1, q2⟩ := hk
  obtain ⟨R, hR⟩ : ∃ R, roomS x = R := ⟨_, rfl⟩
  rw [hR]
  have HR := Lib.hid hR
  obtain ⟨lm, hlm⟩ : ∃ lm, leastS x = lm := ⟨_, rfl⟩
  have HLM := Lib.hid hlm
  rw [hlm] at hle
  rw [hlm] at HL
  clear hO hz hFA hal hx hty hR hlm
  go_enter Try.func27, Try.ntmps27
  go_upto_region 1 with fail
  generalize w.alloc (.cells #[.pointer (some ⟨b, off + k * 8, none⟩)] 61) = U at *
  go_upto_region 2 with (go_at_call 48; refine (HL.out _ HAL.out).mono ?_; rintro e w1 ⟨rfl, hb1⟩; have x1 := box_at (keep hb1 HX.out) 0 _ rfl; have HB1 := Lib.hid (HAL.out.trans (hb1.mono HAL.out.size)); have HX1 := Lib.hid (keep hb1 HX.out); clear hb1)
  clear x0 HL HX
  obtain ⟨fk, fs, fi, fb, fd, ft, fo, ws⟩ := x
  obtain ⟨A, m, d⟩ := S
  simp only at q0 q1 q2 hl hle
  have hF := HF.out.below HB1.out
  have k3 : w1.cell? ⟨b, off + k * 8 + 3, none⟩ = some (.int .i64 fb) := hF.c3
  have k4 : w1.cell? ⟨b, off + k * 8 + 4, none⟩ = some (str fd) := hF.c4
  have k7 : w1.cell? ⟨b, off + k * 8 + 7, none⟩ = some (.slice A m d) := hF.c7
  have f3 : w1.frozen? ⟨b, off + k * 8 + 3, none⟩ = false := ((HO.out.below HB1.out).cell HZ.out (j := 3) rfl).2
  have f4 : w1.frozen? ⟨b, off + k * 8 + 4, none⟩ = false := ((HO.out.below HB1.out).cell HZ.out (j := 4) rfl).2
  clear hF
  by_cases hgt : fb < lm
  · obtain ⟨dd, hdd⟩ := Int.eq_ofNat_of_zero_le (show 0 ≤ lm - fb by omega)
    have hddl : dd ≤ fd.length := by omega
    have hwd2 : IntKind.i64.wrap (lm - fb) = lm - fb := by rw [IntKind.wrap_i64]; omega
    have hd0 : (0 : Int) ≤ (dd : Int) := by omega
    have hddi : (dd : Int) ≤ (fd.length : Int) := by omega
    have hex1 := ext_drop fd dd fd.length rfl
    obtain ⟨r, hr⟩ : ∃ r, fd.drop dd = r := ⟨_, rfl⟩
    rw [hr] at hex1
    have hex2 : (⟨fd.toArray⟩ : ByteArray).extract (lm - fb).toNat fd.length = ⟨r.toArray⟩ := by rw [hdd, Int.toNat_natCast]; exact hex1
    have hl0 : 0 ≤ lm - fb := by omega
    have hl1 : lm - fb ≤ (fd.length : Int) := by omega
    have hl2 : (lm - fb).toNat ≤ fd.length := by omega
    have hRR : R = (⟨fk, fs, fi, lm, r, ft, fo, ws⟩, [], true) := by
      rw [← HR.out]
      unfold roomS
      rw [if_pos (show (⟨fk, fs, fi, fb, fd, ft, fo, ws⟩ : Fl).base < _ from by rw [HLM.out]; exact hgt)]
      unfold trimS
      rw [HLM.out]
      simp only
      rw [show (lm - fb).toNat = dd by omega, hr]
    have HRR := Lib.hid hRR
    clear hr hRR k7 hdd
    go_upto_region 3 with fail
    have hxb : ¬ b = w.heap.size := fun he => by omega
    have hxb2 : ¬ w.heap.size = b := fun he => hxb he.symm
    refine wp_region_held_drew (S := fun W' => W'.cell? ⟨w.heap.size, 0, none⟩ = some (.pointer (some ⟨b, off + k * 8, none⟩))) (by kernel_rfl) (by simpa using x1) (fun hHeld => ?_)
    refine wpAnyH_take (i := 0) (oi := _) (v := ?v0) rfl (by kernel_rfl) (by kernel_rfl) (by kernel_rfl) (fun _ _ _ h => h) (Or.inl ⟨by kernel_rfl, ?y0⟩) (by assumption) ?r0
    case y0 => (intro w hSw; (try dsimp only at hSw); go_simp; try (with_reducible rfl))
    case r0 =>
      simp only [List.getElem_toArray, List.getElem_cons_succ, List.getElem_cons_zero, Act.put, List.setIfInBounds_toArray, List.set_cons_zero, List.set_cons_succ]
      refine wpAnyH_take (i := 1) (oi := _) (v := ?v1) rfl (by kernel_rfl) (by kernel_rfl) (by kernel_rfl) (fun _ _ _ h => h) (Or.inl ⟨by kernel_rfl, ?y1⟩) (by assumption) ?r1
      case y1 => (intro w hSw; (try dsimp only at hSw); go_simp; try (with_reducible rfl))
      case r1 =>
        simp only [List.getElem_toArray, List.getElem_cons_succ, List.getElem_cons_zero, Act.put, List.setIfInBounds_toArray, List.set_cons_zero, List.set_cons_succ]
        refine wpAnyH_take (i := 2) (oi := _) (v := ?v2) rfl (by kernel_rfl) (by kernel_rfl) (by kernel_rfl) (fun _ _ _ h => h) (Or.inl ⟨by kernel_rfl, ?y2⟩) (by assumption) ?r2
        case y2 => (intro w hSw; (try dsimp only at hSw); go_simp; try (with_reducible rfl))
        case r2 =>
          simp only [List.getElem_toArray, List.getElem_cons_succ, List.getElem_cons_zero, Act.put, List.setIfInBounds_toArray, List.set_cons_zero, List.set_cons_succ]
          refine wpAnyH_take (i := 3) (oi := _) (v := ?v3) rfl (by kernel_rfl) (by kernel_rfl) (by kernel_rfl) (fun _ _ _ h => h) (Or.inl ⟨by kernel_rfl, ?y3⟩) (by assumption) ?r3
          case y3 => (intro w hSw; (try dsimp only at hSw); go_simp; try (with_reducible rfl))
          case r3 =>
            simp only [List.getElem_toArray, List.getElem_cons_succ, List.getElem_cons_zero, Act.put, List.setIfInBounds_toArray, List.set_cons_zero, List.set_cons_succ]
            refine wpAnyH_take (i := 4) (oi := _) (v := ?v4) rfl (by kernel_rfl) (by kernel_rfl) (by kernel_rfl) (fun _ _ _ h => h) (Or.inl ⟨by kernel_rfl, ?y4⟩) (by assumption) ?r4
            case y4 => (intro w hSw; (try dsimp only at hSw); go_simp; try (with_reducible rfl))
            case r4 =>
              simp only [List.getElem_toArray, List.getElem_cons_succ, List.getElem_cons_zero, Act.put, List.setIfInBounds_toArray, List.set_cons_zero, List.set_cons_succ]
              refine wpAnyH_take (i := 5) (oi := _) (v := ?v5) rfl (by kernel_rfl) (by kernel_rfl) (by kernel_rfl) (fun _ _ _ h => h) (Or.inl ⟨by kernel_rfl, ?y5⟩) (by assumption) ?r5
              case y5 => (intro w hSw; (try dsimp only at hSw); go_simp; try (with_reducible rfl))
              case r5 =>
                simp only [List.getElem_toArray, List.getElem_cons_succ, List.getElem_cons_zero, Act.put, List.setIfInBounds_toArray, List.set_cons_zero, List.set_cons_succ]
                refine wpAnyH_take (i := 6) (oi := _) (v := ?v6) rfl (by kernel_rfl) (by kernel_rfl) (by kernel_rfl) (fun _ _ _ h => h) (Or.inl ⟨by kernel_rfl, ?y6⟩) (by assumption) ?r6
                case y6 => (intro w hSw; (try dsimp only at hSw); go_simp; try (with_reducible rfl))
                case r6 =>
                  simp only [List.getElem_toArray, List.getElem_cons_succ, List.getElem_cons_zero, Act.put, List.setIfInBounds_toArray, List.set_cons_zero, List.set_cons_succ]
                  refine wpAnyH_take (i := 7) (oi := _) (v := ?v7) rfl (by kernel_rfl) (by kernel_rfl) (by kernel_rfl) (fun _ _ _ h => h) (Or.inl ⟨by kernel_rfl, ?y7⟩) (by assumption) ?r7
                  case y7 => (intro w hSw; (try dsimp only at hSw); go_simp; try (with_reducible rfl))
                  case r7 =>
                    simp only [List.getElem_toArray, List.getElem_cons_succ, List.getElem_cons_zero, Act.put, List.setIfInBounds_toArray, List.set_cons_zero, List.set_cons_succ]
                    refine wpAnyH_take (i := 9) (oi := _) (v := ?v9) rfl (by kernel_rfl) (by kernel_rfl) (by kernel_rfl) (fun _ _ _ h => h) (Or.inl ⟨by kernel_rfl, ?y9⟩) (by assumption) ?r9
                    case y9 => (intro w hSw; (try dsimp only at hSw); go_simp; try (with_reducible rfl))
                    case r9 =>
                      simp only [List.getElem_toArray, List.getElem_cons_succ, List.getElem_cons_zero, Act.put, List.setIfInBounds_toArray, List.set_cons_zero, List.set_cons_succ]
                      refine wpAnyH_take (i := 10) (oi := _) (v := ?v10) rfl (by kernel_rfl) (by kernel_rfl) (by kernel_rfl) (fun _ _ _ h => h) (Or.inl ⟨by kernel_rfl, ?y10⟩) (by assumption) ?r10
                      case y10 => (intro w hSw; (try dsimp only at hSw); go_simp; try (with_reducible rfl))
                      case r10 =>
                        simp only [List.getElem_toArray, List.getElem_cons_succ, List.getElem_cons_zero, Act.put, List.setIfInBounds_toArray, List.set_cons_zero, List.set_cons_succ]
                        refine wpAnyH_take (i := 11) (oi := _) (v := ?v11) rfl (by kernel_rfl) (by kernel_rfl) (by kernel_rfl) (fun _ _ _ h => h) (Or.inl ⟨by kernel_rfl, ?y11⟩) (by assumption) ?r11
                        case y11 => (intro w hSw; (try dsimp only at hSw); go_simp; try (with_reducible rfl))
                        case r11 =>
                          simp only [List.getElem_toArray, List.getElem_cons_succ, List.getElem_cons_zero, Act.put, List.setIfInBounds_toArray, List.set_cons_zero, List.set_cons_succ]
                          refine wpAnyH_take (i := 12) (oi := _) (v := ?v12) rfl (by kernel_rfl) (by kernel_rfl) (by kernel_rfl) (fun _ _ _ h => h) (Or.inl ⟨by kernel_rfl, ?y12⟩) (by assumption) ?r12
                          case y12 => (intro w hSw; (try dsimp only at hSw); go_simp; try (with_reducible rfl))
                          case r12 =>
                            simp only [List.getElem_toArray, List.getElem_cons_succ, List.getElem_cons_zero, Act.put, List.setIfInBounds_toArray, List.set_cons_zero, List.set_cons_succ]
                            refine wpAnyH_take (i := 13) (oi := _) (v := ?v13) rfl (by kernel_rfl) (by kernel_rfl) (by kernel_rfl) (fun _ _ _ h => h) (Or.inl ⟨by kernel_rfl, ?y13⟩) (by assumption) ?r13
                            case y13 => (intro w hSw; (try dsimp only at hSw); go_simp; try (with_reducible rfl))
                            case r13 =>
                              simp only [List.getElem_toArray, List.getElem_cons_succ, List.getElem_cons_zero, Act.put, List.setIfInBounds_toArray, List.set_cons_zero, List.set_cons_succ]
                              refine wpAnyH_take (i := 17) (oi := _) (v := ?v17) rfl (by kernel_rfl) (by kernel_rfl) (by kernel_rfl) (fun _ _ _ h => h) (Or.inl ⟨by kernel_rfl, ?y17⟩) (by assumption) ?r17
                              case y17 => (intro w hSw; (try dsimp only at hSw); go_simp; try (with_reducible rfl))
                              case r17 =>
                                simp only [List.getElem_toArray, List.getElem_cons_succ, List.getElem_cons_zero, Act.put, List.setIfInBounds_toArray, List.set_cons_zero, List.set_cons_succ]
                                refine wpAnyH_ready (rs := [8, 14]) (by kernel_rfl) (by simp) ?_
                                refine AllReadyH.cons (o := _) rfl (fun K hK => ?_) (AllReadyH.cons (o := _) rfl (fun K hK => ?_) (AllReadyH.nil))
                                · go_simp
                                  go_wp2_with fail
                                  refine hK.out _ _ (by first | assumption | exact cell_set hHeld hxb2 | exact cell_set (cell_set hHeld hxb2) hxb2 | (simp; assumption)) (fun hHeld => ?_)
                                  clear hK K
                                  try simp only [List.getElem_toArray, List.getElem_cons_succ, List.getElem_cons_zero, Act.put, List.setIfInBounds_toArray, List.set_cons_zero, List.set_cons_succ]
                                  refine wpAnyH_ready (rs := [14]) (by kernel_rfl) (by simp) ?_
                                  refine AllReadyH.cons (o := _) rfl (fun K hK => ?_) (AllReadyH.nil)
                                  · go_simp
                                    go_wp2_with fail
                                    refine hK.out _ _ (by first | assumption | exact cell_set hHeld hxb2 | exact cell_set (cell_set hHeld hxb2) hxb2 | (simp; assumption)) (fun hHeld => ?_)
                                    clear hK K
                                    try simp only [List.getElem_toArray, List.getElem_cons_succ, List.getElem_cons_zero, Act.put, List.setIfInBounds_toArray, List.set_cons_zero, List.set_cons_succ]
                                    refine wpAnyH_ready (rs := [15]) (by kernel_rfl) (by simp) ?_
                                    refine AllReadyH.cons (o := _) rfl (fun K hK => ?_) (AllReadyH.nil)
                                    · go_simp
                                      go_wp2_with fail
                                      refine hK.out _ _ (by first | assumption | exact cell_set hHeld hxb2 | exact cell_set (cell_set hHeld hxb2) hxb2 | (simp; assumption)) (fun hHeld => ?_)
                                      clear hK K
                                      try simp only [List.getElem_toArray, List.getElem_cons_succ, List.getElem_cons_zero, Act.put, List.setIfInBounds_toArray, List.set_cons_zero, List.set_cons_succ]
                                      refine wpAnyH_ready (rs := [16]) (by kernel_rfl) (by simp) ?_
                                      refine AllReadyH.cons (o := _) rfl (fun K hK => ?_) (AllReadyH.nil)
                                      · go_simp
                                        go_wp2_with fail
                                        refine hK.out _ _ (by first | assumption | exact cell_set hHeld hxb2 | exact cell_set (cell_set hHeld hxb2) hxb2 | (simp; assumption)) (fun hHeld => ?_)
                                        clear hK K
                                        try simp only [List.getElem_toArray, List.getElem_cons_succ, List.getElem_cons_zero, Act.put, List.setIfInBounds_toArray, List.set_cons_zero, List.set_cons_succ]
                                        refine wpAnyH_take (i := 18) (oi := _) (v := ?v18t1) rfl (by kernel_rfl) (by kernel_rfl) (by kernel_rfl) (fun _ _ _ h => h) (Or.inl ⟨by kernel_rfl, ?y18t1⟩) (by assumption) ?r18t1
                                        case y18t1 => (intro w hSw; (try dsimp only at hSw); go_simp; try (with_reducible rfl))
                                        case r18t1 =>
                                          simp only [List.getElem_toArray, List.getElem_cons_succ, List.getElem_cons_zero, Act.put, List.setIfInBounds_toArray, List.set_cons_zero, List.set_cons_succ]
                                          refine wpAnyH_take (i := 19) (oi := _) (v := ?v19t2) rfl (by kernel_rfl) (by kernel_rfl) (by kernel_rfl) (fun _ _ _ h => h) (Or.inl ⟨by kernel_rfl, ?y19t2⟩) (by assumption) ?r19t2
                                          case y19t2 => (intro w hSw; (try dsimp only at hSw); go_simp; try (with_reducible rfl))
                                          case r19t2 =>
                                            simp only [List.getElem_toArray, List.getElem_cons_succ, List.getElem_cons_zero, Act.put, List.setIfInBounds_toArray, List.set_cons_zero, List.set_cons_succ]
                                            refine wpAnyH_ready (rs := [20]) (by kernel_rfl) (by simp) ?_
                                            refine AllReadyH.cons (o := _) rfl (fun K hK => ?_) (AllReadyH.nil)
                                            · go_simp
                                              go_wp2_with fail
                                              refine hK.out _ _ (by first | assumption | exact cell_set hHeld hxb2 | exact cell_set (cell_set hHeld hxb2) hxb2 | (simp; assumption)) (fun hHeld => ?_)
                                              clear hK K
                                              try simp only [List.getElem_toArray, List.getElem_cons_succ, List.getElem_cons_zero, Act.put, List.setIfInBounds_toArray, List.set_cons_zero, List.set_cons_succ]
                                              refine wpAnyH_take (i := 21) (oi := _) (v := ?v21t3) rfl (by kernel_rfl) (by kernel_rfl) (by kernel_rfl) (fun _ _ _ h => h) (Or.inl ⟨by kernel_rfl, ?y21t3⟩) (by assumption) ?r21t3
                                              case y21t3 => (intro w hSw; (try dsimp only at hSw); go_simp; try (with_reducible rfl))
                                              case r21t3 =>
                                                simp only [List.getElem_toArray, List.getElem_cons_succ, List.getElem_cons_zero, Act.put, List.setIfInBounds_toArray, List.set_cons_zero, List.set_cons_succ]
                                                refine wpAnyH_take (i := 22) (oi := _) (v := ?v22t4) rfl (by kernel_rfl) (by kernel_rfl) (by kernel_rfl) (fun _ _ _ h => h) (Or.inl ⟨by kernel_rfl, ?y22t4⟩) (by assumption) ?r22t4
                                                case y22t4 => (intro w hSw; (try dsimp only at hSw); go_simp; try (with_reducible rfl))
                                                case r22t4 =>
                                                  simp only [List.getElem_toArray, List.getElem_cons_succ, List.getElem_cons_zero, Act.put, List.setIfInBounds_toArray, List.set_cons_zero, List.set_cons_succ]
                                                  refine wpAnyH_ready (rs := [23]) (by kernel_rfl) (by simp) ?_
                                                  refine AllReadyH.cons (o := _) rfl (fun K hK => ?_) (AllReadyH.nil)
                                                  · go_simp
                                                    go_wp2_with fail
                                                    refine hK.out _ _ (by first | assumption | exact cell_set hHeld hxb2 | exact cell_set (cell_set hHeld hxb2) hxb2 | (simp; assumption)) (fun hHeld => ?_)
                                                    clear hK K
                                                    try simp only [List.getElem_toArray, List.getElem_cons_succ, List.getElem_cons_zero, Act.put, List.setIfInBounds_toArray, List.set_cons_zero, List.set_cons_succ]
                                                    refine wpAnyH_done (by kernel_rfl) ?_ _
                                                    go_wp2_with fail
                                                    refine bodyPost_ret (v := .tuple #[.slice none 0 0, .bool true]) (by simp [results, Try.results27, go_sem]) rfl ?_
                                                    rw [HRR.out]
                                                    have hA := (HO.out.below HB1.out).put1 HZ.out 4 (by decide) (v := str r) (x' := ⟨fk, fs, fi, fb, r, ft, fo, ws⟩) rfl rfl
                                                    have hB := hA.put1 (k := k) (x := ⟨fk, fs, fi, fb, r, ft, fo, ws⟩) (x' := ⟨fk, fs, fi, lm, r, ft, fo, ws⟩) (S := ⟨A, m, d⟩) (by rw [List.getElem?_set_self hkl]) 3 (by decide) (v := .int .i64 lm) rfl rfl
                                                    rw [List.set_set] at hB
                                                    exact ⟨_, none, 0, 0, rfl, hB.below (below_drew (Below.refl _ _)), RdE.nil _ _ _, gb_trans (gb_set (gb_set (gb_below HB1.out) _) _) (gb_below (below_drew (Below.refl _ _)))⟩
                                · go_simp
                                  go_wp2_with fail
                                  refine hK.out _ _ (by first | assumption | exact cell_set hHeld hxb2 | exact cell_set (cell_set hHeld hxb2) hxb2 | (simp; assumption)) (fun hHeld => ?_)
                                  clear hK K
                                  try simp only [List.getElem_toArray, List.getElem_cons_succ, List.getElem_cons_zero, Act.put, List.setIfInBounds_toArray, List.set_cons_zero, List.set_cons_succ]
                                  refine wpAnyH_ready (rs := [8, 15]) (by kernel_rfl) (by simp) ?_
                                  refine AllReadyH.cons (o := _) rfl (fun K hK => ?_) (AllReadyH.cons (o := _) rfl (fun K hK => ?_) (AllReadyH.nil))
                                  · go_simp
                                    go_wp2_with fail
                                    refine hK.out _ _ (by first | assumption | exact cell_set hHeld hxb2 | exact cell_set (cell_set hHeld hxb2) hxb2 | (simp; assumption)) (fun hHeld => ?_)
                                    clear hK K
                                    try simp only [List.getElem_toArray, List.getElem_cons_succ, List.getElem_cons_zero, Act.put, List.setIfInBounds_toArray, List.set_cons_zero, List.set_cons_succ]
                                    refine wpAnyH_ready (rs := [15]) (by kernel_rfl) (by simp) ?_
                                    refine AllReadyH.cons (o := _) rfl (fun K hK => ?_) (AllReadyH.nil)
                                    · go_simp
                                      go_wp2_with fail
                                      refine hK.out _ _ (by first | assumption | exact cell_set hHeld hxb2 | exact cell_set (cell_set hHeld hxb2) hxb2 | (simp; assumption)) (fun hHeld => ?_)
                                      clear hK K
                                      try simp only [List.getElem_toArray, List.getElem_cons_succ, List.getElem_cons_zero, Act.put, List.setIfInBounds_toArray, List.set_cons_zero, List.set_cons_succ]
                                      refine wpAnyH_ready (rs := [16]) (by kernel_rfl) (by simp) ?_
                                      refine AllReadyH.cons (o := _) rfl (fun K hK => ?_) (AllReadyH.nil)
                                      · go_simp
                                        go_wp2_with fail
                                        refine hK.out _ _ (by first | assumption | exact cell_set hHeld hxb2 | exact cell_set (cell_set hHeld hxb2) hxb2 | (simp; assumption)) (fun hHeld => ?_)
                                        clear hK K
                                        try simp only [List.getElem_toArray, List.getElem_cons_succ, List.getElem_cons_zero, Act.put, List.setIfInBounds_toArray, List.set_cons_zero, List.set_cons_succ]
                                        refine wpAnyH_take (i := 18) (oi := _) (v := ?v18t5) rfl (by kernel_rfl) (by kernel_rfl) (by kernel_rfl) (fun _ _ _ h => h) (Or.inl ⟨by kernel_rfl, ?y18t5⟩) (by assumption) ?r18t5
                                        case y18t5 => (intro w hSw; (try dsimp only at hSw); go_simp; try (with_reducible rfl))
                                        case r18t5 =>
                                          simp only [List.getElem_toArray, List.getElem_cons_succ, List.getElem_cons_zero, Act.put, List.setIfInBounds_toArray, List.set_cons_zero, List.set_cons_succ]
                                          refine wpAnyH_take (i := 19) (oi := _) (v := ?v19t6) rfl (by kernel_rfl) (by kernel_rfl) (by kernel_rfl) (fun _ _ _ h => h) (Or.inl ⟨by kernel_rfl, ?y19t6⟩) (by assumption) ?r19t6
                                          case y19t6 => (intro w hSw; (try dsimp only at hSw); go_simp; try (with_reducible rfl))
                                          case r19t6 =>
                                            simp only [List.getElem_toArray, List.getElem_cons_succ, List.getElem_cons_zero, Act.put, List.setIfInBounds_toArray, List.set_cons_zero, List.set_cons_succ]
                                            refine wpAnyH_ready (rs := [20]) (by kernel_rfl) (by simp) ?_
                                            refine AllReadyH.cons (o := _) rfl (fun K hK => ?_) (AllReadyH.nil)
                                            · go_simp
                                              go_wp2_with fail
                                              refine hK.out _ _ (by first | assumption | exact cell_set hHeld hxb2 | exact cell_set (cell_set hHeld hxb2) hxb2 | (simp; assumption)) (fun hHeld => ?_)
                                              clear hK K
                                              try simp only [List.getElem_toArray, List.getElem_cons_succ, List.getElem_cons_zero, Act.put, List.setIfInBounds_toArray, List.set_cons_zero, List.set_cons_succ]
                                              refine wpAnyH_take (i := 21) (oi := _) (v := ?v21t7) rfl (by kernel_rfl) (by kernel_rfl) (by kernel_rfl) (fun _ _ _ h => h) (Or.inl ⟨by kernel_rfl, ?y21t7⟩) (by assumption) ?r21t7
                                              case y21t7 => (intro w hSw; (try dsimp only at hSw); go_simp; try (with_reducible rfl))
                                              case r21t7 =>
                                                simp only [List.getElem_toArray, List.getElem_cons_succ, List.getElem_cons_zero, Act.put, List.setIfInBounds_toArray, List.set_cons_zero, List.set_cons_succ]
                                                refine wpAnyH_take (i := 22) (oi := _) (v := ?v22t8) rfl (by kernel_rfl) (by kernel_rfl) (by kernel_rfl) (fun _ _ _ h => h) (Or.inl ⟨by kernel_rfl, ?y22t8⟩) (by assumption) ?r22t8
                                                case y22t8 => (intro w hSw; (try dsimp only at hSw); go_simp; try (with_reducible rfl))
                                                case r22t8 =>
                                                  simp only [List.getElem_toArray, List.getElem_cons_succ, List.getElem_cons_zero, Act.put, List.setIfInBounds_toArray, List.set_cons_zero, List.set_cons_succ]
                                                  refine wpAnyH_ready (rs := [23]) (by kernel_rfl) (by simp) ?_
                                                  refine AllReadyH.cons (o := _) rfl (fun K hK => ?_) (AllReadyH.nil)
                                                  · go_simp
                                                    go_wp2_with fail
                                                    refine hK.out _ _ (by first | assumption | exact cell_set hHeld hxb2 | exact cell_set (cell_set hHeld hxb2) hxb2 | (simp; assumption)) (fun hHeld => ?_)
                                                    clear hK K
                                                    try simp only [List.getElem_toArray, List.getElem_cons_succ, List.getElem_cons_zero, Act.put, List.setIfInBounds_toArray, List.set_cons_zero, List.set_cons_succ]
                                                    refine wpAnyH_done (by kernel_rfl) ?_ _
                                                    go_wp2_with fail
                                                    refine bodyPost_ret (v := .tuple #[.slice none 0 0, .bool true]) (by simp [results, Try.results27, go_sem]) rfl ?_
                                                    rw [HRR.out]
                                                    have hA := (HO.out.below HB1.out).put1 HZ.out 4 (by decide) (v := str r) (x' := ⟨fk, fs, fi, fb, r, ft, fo, ws⟩) rfl rfl
                                                    have hB := hA.put1 (k := k) (x := ⟨fk, fs, fi, fb, r, ft, fo, ws⟩) (x' := ⟨fk, fs, fi, lm, r, ft, fo, ws⟩) (S := ⟨A, m, d⟩) (by rw [List.getElem?_set_self hkl]) 3 (by decide) (v := .int .i64 lm) rfl rfl
                                                    rw [List.set_set] at hB
                                                    exact ⟨_, none, 0, 0, rfl, hB.below (below_drew (Below.refl _ _)), RdE.nil _ _ _, gb_trans (gb_set (gb_set (gb_below HB1.out) _) _) (gb_below (below_drew (Below.refl _ _)))⟩
                                  · go_simp
                                    go_wp2_with fail
                                    refine hK.out _ _ (by first | assumption | exact cell_set hHeld hxb2 | exact cell_set (cell_set hHeld hxb2) hxb2 | (simp; assumption)) (fun hHeld => ?_)
                                    clear hK K
                                    try simp only [List.getElem_toArray, List.getElem_cons_succ, List.getElem_cons_zero, Act.put, List.setIfInBounds_toArray, List.set_cons_zero, List.set_cons_succ]
                                    refine wpAnyH_ready (rs := [8]) (by kernel_rfl) (by simp) ?_
                                    refine AllReadyH.cons (o := _) rfl (fun K hK => ?_) (AllReadyH.nil)
                                    · go_simp
                                      go_wp2_with fail
                                      refine hK.out _ _ (by first | assumption | exact cell_set hHeld hxb2 | exact cell_set (cell_set hHeld hxb2) hxb2 | (simp; assumption)) (fun hHeld => ?_)
                                      clear hK K
                                      try simp only [List.getElem_toArray, List.getElem_cons_succ, List.getElem_cons_zero, Act.put, List.setIfInBounds_toArray, List.set_cons_zero, List.set_cons_succ]
                                      refine wpAnyH_ready (rs := [16]) (by kernel_rfl) (by simp) ?_
                                      refine AllReadyH.cons (o := _) rfl (fun K hK => ?_) (AllReadyH.nil)
                                      · go_simp
                                        go_wp2_with fail
                                        refine hK.out _ _ (by first | assumption | exact cell_set hHeld hxb2 | exact cell_set (cell_set hHeld hxb2) hxb2 | (simp; assumption)) (fun hHeld => ?_)
                                        clear hK K
                                        try simp only [List.getElem_toArray, List.getElem_cons_succ, List.getElem_cons_zero, Act.put, List.setIfInBounds_toArray, List.set_cons_zero, List.set_cons_succ]
                                        refine wpAnyH_take (i := 18) (oi := _) (v := ?v18t9) rfl (by kernel_rfl) (by kernel_rfl) (by kernel_rfl) (fun _ _ _ h => h) (Or.inl ⟨by kernel_rfl, ?y18t9⟩) (by assumption) ?r18t9
                                        case y18t9 => (intro w hSw; (try dsimp only at hSw); go_simp; try (with_reducible rfl))
                                        case r18t9 =>
                                          simp only [List.getElem_toArray, List.getElem_cons_succ, List.getElem_cons_zero, Act.put, List.setIfInBounds_toArray, List.set_cons_zero, List.set_cons_succ]
                                          refine wpAnyH_take (i := 19) (oi := _) (v := ?v19t10) rfl (by kernel_rfl) (by kernel_rfl) (by kernel_rfl) (fun _ _ _ h => h) (Or.inl ⟨by kernel_rfl, ?y19t10⟩) (by assumption) ?r19t10
                                          case y19t10 => (intro w hSw; (try dsimp only at hSw); go_simp; try (with_reducible rfl))
                                          case r19t10 =>
                                            simp only [List.getElem_toArray, List.getElem_cons_succ, List.getElem_cons_zero, Act.put, List.setIfInBounds_toArray, List.set_cons_zero, List.set_cons_succ]
                                            refine wpAnyH_ready (rs := [20]) (by kernel_rfl) (by simp) ?_
                                            refine AllReadyH.cons (o := _) rfl (fun K hK => ?_) (AllReadyH.nil)
                                            · go_simp
                                              go_wp2_with fail
                                              refine hK.out _ _ (by first | assumption | exact cell_set hHeld hxb2 | exact cell_set (cell_set hHeld hxb2) hxb2 | (simp; assumption)) (fun hHeld => ?_)
                                              clear hK K
                                              try simp only [List.getElem_toArray, List.getElem_cons_succ, List.getElem_cons_zero, Act.put, List.setIfInBounds_toArray, List.set_cons_zero, List.set_cons_succ]
                                              refine wpAnyH_take (i := 21) (oi := _) (v := ?v21t11) rfl (by kernel_rfl) (by kernel_rfl) (by kernel_rfl) (fun _ _ _ h => h) (Or.inl ⟨by kernel_rfl, ?y21t11⟩) (by assumption) ?r21t11
                                              case y21t11 => (intro w hSw; (try dsimp only at hSw); go_simp; try (with_reducible rfl))
                                              case r21t11 =>
                                                simp only [List.getElem_toArray, List.getElem_cons_succ, List.getElem_cons_zero, Act.put, List.setIfInBounds_toArray, List.set_cons_zero, List.set_cons_succ]
                                                refine wpAnyH_take (i := 22) (oi := _) (v := ?v22t12) rfl (by kernel_rfl) (by kernel_rfl) (by kernel_rfl) (fun _ _ _ h => h) (Or.inl ⟨by kernel_rfl, ?y22t12⟩) (by assumption) ?r22t12
                                                case y22t12 => (intro w hSw; (try dsimp only at hSw); go_simp; try (with_reducible rfl))
                                                case r22t12 =>
                                                  simp only [List.getElem_toArray, List.getElem_cons_succ, List.getElem_cons_zero, Act.put, List.setIfInBounds_toArray, List.set_cons_zero, List.set_cons_succ]
                                                  refine wpAnyH_ready (rs := [23]) (by kernel_rfl) (by simp) ?_
                                                  refine AllReadyH.cons (o := _) rfl (fun K hK => ?_) (AllReadyH.nil)
                                                  · go_simp
                                                    go_wp2_with fail
                                                    refine hK.out _ _ (by first | assumption | exact cell_set hHeld hxb2 | exact cell_set (cell_set hHeld hxb2) hxb2 | (simp; assumption)) (fun hHeld => ?_)
                                                    clear hK K
                                                    try simp only [List.getElem_toArray, List.getElem_cons_succ, List.getElem_cons_zero, Act.put, List.setIfInBounds_toArray, List.set_cons_zero, List.set_cons_succ]
                                                    refine wpAnyH_done (by kernel_rfl) ?_ _
                                                    go_wp2_with fail
                                                    refine bodyPost_ret (v := .tuple #[.slice none 0 0, .bool true]) (by simp [results, Try.results27, go_sem]) rfl ?_
                                                    rw [HRR.out]
                                                    have hA := (HO.out.below HB1.out).put1 HZ.out 4 (by decide) (v := str r) (x' := ⟨fk, fs, fi, fb, r, ft, fo, ws⟩) rfl rfl
                                                    have hB := hA.put1 (k := k) (x := ⟨fk, fs, fi, fb, r, ft, fo, ws⟩) (x' := ⟨fk, fs, fi, lm, r, ft, fo, ws⟩) (S := ⟨A, m, d⟩) (by rw [List.getElem?_set_self hkl]) 3 (by decide) (v := .int .i64 lm) rfl rfl
                                                    rw [List.set_set] at hB
                                                    exact ⟨_, none, 0, 0, rfl, hB.below (below_drew (Below.refl _ _)), RdE.nil _ _ _, gb_trans (gb_set (gb_set (gb_below HB1.out) _) _) (gb_below (below_drew (Below.refl _ _)))⟩
  · have hxb : ¬ b = w.heap.size := fun he => by omega
    obtain ⟨fast, hfast⟩ : ∃ fast, ws.filter (fun t => !(t.at' == fb)) = fast := ⟨_, rfl⟩
    have hRF : roomS ⟨fk, fs, fi, fb, fd, ft, fo, ws⟩ = if fast = [] then (⟨fk, fs, fi, fb, fd, ft, fo, ws⟩, [], false) else (⟨fk, fs, fi, fb, fd, ft, fo, fast⟩, (ws.filter (fun t => t.at' == fb)).map Tm.id, true) := by
      unfold roomS
      rw [if_neg (show ¬ (⟨fk, fs, fi, fb, fd, ft, fo, ws⟩ : Fl).base < _ from by rw [HLM.out]; exact hgt)]
      unfold fastS slowS
      simp only [hfast]
    rw [HR.out] at hRF
    have HRF := Lib.hid hRF
    have HFA := Lib.hid hfast
    have HWS := Lib.hid (HF.out.below HB1.out).r
    have hwm : ws.length = m := HWS.out.len
    have HTY1 := Lib.hid (show ∃ cs, w1.heap[b]? = some (.cells cs 45 (0, 0)) from by obtain ⟨cs, h⟩ := HTY.out; exact ⟨cs, keep HB1.out h⟩)
    have K3 := Lib.hid k3
    have hle1 : fb ≤ 9007199254740992 := q1
    clear hRF hfast k4 f3 f4
    go_upto_region 6 with fail
    clear k3
    go_upto_region 7 with (first
      | (go_at_call 46; refine (clone_tms w1 _ ws HWS.out hl).mono ?_; rintro e w2 ⟨A2, m2, d2, rfl, hO2, hb2⟩; have HO2 := Lib.hid hO2; have HB2 := Lib.hid hb2; have hm2 : m2 ≤ 1000 := (by have := hO2.rd.len; omega); have HM2 := Lib.hid hm2; clear hO2 hb2 hm2 x1 k7)
      | (go_at_call 50; refine (deleteLate_any w2 w.heap.size b (off + k * 8) fb w1.heap.size A2 m2 d2 ws HO2.out (keep HB2.out HX1.out) (by obtain ⟨cs, h⟩ := HTY1.out; exact ⟨cs, keep HB2.out h⟩) (pw_cell_below HB2.out K3.out) HM2.out).mono ?_; rw [HFA.out]; rintro e w3 ⟨m3, rfl, hO3, hg3⟩; have HO3 := Lib.hid hO3; have HG3 := Lib.hid hg3; clear hO3 hg3))
    have hb3 : Below w1.heap.size w1 w3 := HB2.out.grown HG3.out HB2.out.size (fun q hq => HO2.out.lo q hq)
    have HB3 := Lib.hid hb3
    have HB03 := Lib.hid (HB1.out.trans (hb3.mono HB1.out.size))
    have HX3 := Lib.hid (keep hb3 HX1.out)
    have hfl : fast.length = m3 := HO3.out.rd.len
    clear hb3
    by_cases hfe : fast = []
    · have hm3 : m3 = 0 := by rw [← hfl, hfe]; rfl
      subst hm3
      have HRE := Lib.hid (show R = (⟨fk, fs, fi, fb, fd, ft, fo, ws⟩, [], false) from by rw [HRF.out, if_pos hfe])
      go_wp2_with fail
      refine bodyPost_ret (v := .tuple #[.slice none 0 0, .bool false]) (by simp [results, Try.results27, go_sem]) rfl ?_
      rw [HRE.out]
      refine ⟨⟨A, m, d⟩, none, 0, 0, rfl, ?_, RdE.nil _ _ _, gb_below HB03.out⟩
      rw [set_self HZ.out]
      exact HO.out.below HB03.out
    · have hm3 : 0 < m3 := by
        rw [← hfl]
        exact List.length_pos_iff.2 hfe
      have hm3b : ((m3 : Int) == 0) = false := by rw [beq_eq_false_iff_ne]; omega
      have HRE := Lib.hid (show R = (⟨fk, fs, fi, fb, fd, ft, fo, fast⟩, (ws.filter (fun t => t.at' == fb)).map Tm.id, true) from by rw [HRF.out, if_neg hfe])
      have x3 := box_at HX3.out 0 _ rfl
      have k7 : w3.cell? ⟨b, off + k * 8 + 7, none⟩ = some (.slice A m d) := (HF.out.below HB03.out).c7
      clear hfe
      go_upto_region 9 with fail
      go_upto_region 10 with fail
      clear k7
      have HW3 := Lib.hid (HF.out.below HB03.out).r
      have hwmz : (0 : Int) ≤ (m : Int) := by omega
      go_loopg [2, 58] m (fun gg s2 s58 wr => ∃ (kk : Nat) (L : Option Addr) (l dl : Nat), kk ≤ m ∧ m - kk ≤ gg ∧ s2 = .slice L l dl ∧ s58 = .int .i64 kk ∧ Aside (Below w3.heap.size w3 wr ∧ OwE ienc 1 3 wr w3.heap.size (.slice L l dl) (((ws.take kk).filter (fun t => t.at' == fb)).map Tm.id)))
      case atStart => exact ⟨0, none, 0, 0, Nat.zero_le _, by omega, rfl, rfl, (show Aside _ from ⟨Below.refl _ _, OwE.nil iencL _ _ _⟩)⟩
      case round =>
        obtain ⟨kk, L, l, dl, hkk, hg, rfl, rfl, HA⟩ := hrel
        have HBr := Lib.hid HA.out.1
        have HOr := Lib.hid HA.out.2
        clear HA
        by_cases hlt : kk < m
        · have hltz : (kk : Int) < (m : Int) := by omega
          have ht : ws[kk]? = some (ws[kk]'(by omega)) := List.getElem?_eq_getElem _
          have hte : ws.take (kk + 1) = ws.take kk ++ [ws[kk]'(by omega)] := List.take_succ_eq_append_getElem (by omega)
          generalize ws[kk]'(by omega) = t at ht hte
          obtain ⟨ti, ta⟩ := t
          obtain ⟨pb, po, hPA, hpl, j0, j1⟩ := (HW3.out.below HBr.out).tm ht
          subst hPA
          simp only at j0 j1
          have HTE := Lib.hid hte
          clear ht hte
          go_upto_region 12 with fail
          have hal : Below wr.heap.size wr (wr.alloc (.cells #[.int .i64 ti, .int .i64 ta] 47)) := (Below.refl _ _).alloc (Nat.le_refl _) _
          have hb8 := heap_alloc_new wr (.cells #[.int .i64 ti, .int .i64 ta] 47)
          have HBU := Lib.hid (HBr.out.trans (hal.mono HBr.out.size))
          have HOU := Lib.hid (HOr.out.below hal)
          clear hal j0 j1 HBr HOr
          generalize wr.alloc (.cells #[.int .i64 ti, .int .i64 ta] 47) = U2 at *
          generalize wr.heap.size = tb at *
          have t0 := box_at hb8 0 _ rfl
          have t1 := box_at hb8 1 _ rfl
          have HB8 := Lib.hid hb8
          have HC := Lib.hid (late1 U2 w.heap.size b (off + k * 8) fb ⟨ti, ta⟩ (keep HBU.out HX3.out) (pw_cell_below HBU.out (HF.out.below HB03.out).c3))
          clear hb8
          cases hq : (ta == fb) with
          | true =>
            have HQ := Lib.hid hq; clear hq
            go_upto_region 13 with (go_at_fn 49; refine (HC.out).mono ?_; simp only [HQ.out]; rintro e w' ⟨rfl, hb'⟩; have hx' := keep hb' HB8.out; have HB5 := Lib.hid (HBU.out.trans (hb'.mono HBU.out.size)); have HO5 := Lib.hid (HOU.out.below hb'); clear hb' t0 t1; have t0 := box_at hx' 0 _ rfl; clear hx')
            have hol := HO5.out.rd.len
            have hfl2 : ((List.filter (fun t => t.at' == fb) (ws.take kk)).map Tm.id).length ≤ 1000 := by
              rw [List.length_map]
              exact Nat.le_trans (List.length_filter_le _ _) (by rw [List.length_take]; omega)
            go_wp2_with (at_builtin; refine wp_appE w3.heap.size rfl _ _ 34 3 (.int .i64 0) 8 rfl Try.underlying34 Try.info3 rfl (by omega) (by omega) (.slice L l dl) (.slice (some ⟨w'.heap.size, 0, none⟩) 1 1) _ [ti] rfl rfl (HO5.out.below ((Below.refl _ _).alloc (Nat.le_refl _) _)) (rd_boxE (enc := ienc) w' ti 3) ienc1 ?c3 ?c4 ?c5)
            case c3 => simp only [List.length_cons, List.length_nil]; omega
            case c4 => have := HB5.out.size; simp; omega
            case c5 =>
              intro v1 w7 hv1 hg1 hat1
              obtain ⟨F1, f1, g1, rfl⟩ := hv1.slice'
              have hb7 : Below w3.heap.size w3 w7 := (HB5.out.alloc HB5.out.size _).grown hg1 (by have := HB5.out.size; simp; omega) (fun q hq => by
                have := (HO5.out.below ((Below.refl _ _).alloc (Nat.le_refl _) (.cells #[.int .i64 ti] 3))).lo q hq
                omega)
              have HV := Lib.hid hv1
              have HB7 := Lib.hid hb7
              clear hv1 hg1 hat1 hb7
              go_wp2_with fail
              go_roundg (m - (kk + 1))
              case measure => omega
              case rel =>
                refine ⟨kk + 1, F1, f1, g1, by omega, by omega, rfl, by go_num, (show Aside _ from ⟨HB7.out, ?_⟩)⟩
                rw [HTE.out, List.filter_append, List.map_append]
                simp only [List.filter_cons, List.filter_nil, HQ.out, if_true, List.map_cons, List.map_nil]
                exact HV.out
          | false =>
            have HQ := Lib.hid hq; clear hq
            go_wp2_with (go_at_fn 49; refine (HC.out).mono ?_; simp only [HQ.out]; rintro e w' ⟨rfl, hb'⟩; have HB5 := Lib.hid (HBU.out.trans (hb'.mono HBU.out.size)); have HO5 := Lib.hid (HOU.out.below hb'); clear hb' t0 t1)
            go_roundg (m - (kk + 1))
            case measure => omega
            case rel =>
              refine ⟨kk + 1, L, l, dl, by omega, by omega, rfl, by go_num, (show Aside _ from ⟨HB5.out, ?_⟩)⟩
              rw [HTE.out, List.filter_append, List.map_append]
              simp only [List.filter_cons, List.filter_nil, HQ.out, Bool.false_eq_true, if_false, List.map_nil, List.append_nil]
              exact HO5.out
        · have hltz : ¬ (kk : Int) < (m : Int) := by omega
          have HBA := Lib.hid (HB03.out.trans (HBr.out.mono HB03.out.size))
          have hOW := HO.out.below HBA.out
          have c7 : wr.cell? ⟨b, off + k * 8 + 7, none⟩ = some (.slice A m d) := (hOW.cell HZ.out (j := 7) rfl).1
          have f7 : wr.frozen? ⟨b, off + k * 8 + 7, none⟩ = false := (hOW.cell HZ.out (j := 7) rfl).2
          have x7 := box_at (keep HBr.out HX3.out) 0 _ rfl
          have HOW := Lib.hid hOW
          clear hOW
          go_wp2_with fail
          refine bodyPost_ret (v := .tuple #[.slice L l dl, .bool true]) (by simp [results, Try.results27, go_sem]) rfl ?_
          rw [HRE.out]
          have hO3 := HO3.out.below HBr.out
          have hlo : ∀ q, (Value.slice A2 m3 d2).ownBlock = some q → w1.heap.size ≤ q := fun q hq => HO3.out.lo q hq
          have hne : ∀ (i : Nat) (y : FV), i ≠ k → zs[i]? = some y → ∀ q, y.2.v.ownBlock = some q → (Value.slice A2 m3 d2).ownBlock ≠ some q := by
            intro i y _ hy q hq he
            have h1 := hlo q he
            have h2 := (Array.getElem?_eq_some_iff.1 ((HO.out.r i y hy).typed q hq).choose_spec).1
            have h3 := HB1.out.size
            omega
          have hput := HOW.out.put7 (x' := ⟨fk, fs, fi, fb, fd, ft, fo, fast⟩) (S' := ⟨A2, m3, d2⟩) HZ.out rfl (hO3.lower (Nat.le_trans hbw HB1.out.size)) hne
          have hlb : ∀ q, (Value.slice L l dl).ownBlock = some q → q ≠ b := by
            intro q hq he
            have h1 := HOr.out.lo q hq
            have h2 := HB03.out.size
            omega
          refine ⟨⟨A2, m3, d2⟩, L, l, dl, rfl, hput, ?_, gb_set (gb_below HBA.out) _⟩
          have hrd := HOr.out.rd
          rw [List.take_of_length_le (by omega)] at hrd
          exact hrd.far hlb _
end Go.Proofs.Ytipjhokhflokmaa
