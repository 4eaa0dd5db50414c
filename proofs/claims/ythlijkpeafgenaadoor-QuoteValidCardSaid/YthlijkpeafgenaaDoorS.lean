/- quote.Quote. -/
import Derived.Test.YthlijkpeafgenaaDoorR
set_option linter.unusedVariables false
set_option linter.unusedSimpArgs false
namespace Go.Proofs.YthlijkpeafgenaaDoor
open Go.RowKit Go.Lib
open Go.Proofs.YthlijkpeafgenaaDoorW.PrintWords

theorem Bld.below {W W1 : World} {b : Nat} {l : List UInt8} (h : Bld W b l) (hb : Below W.heap.size W W1) : Bld W1 b l := by
  have key : ∀ p, BuilderAtF 36 5 b b p (byteCells l) W → BuilderAtF 36 5 b b p (byteCells l) W1 := by
    intro p h1
    have hlt := h1.lt
    obtain ⟨h2, v, h3, h4, h5⟩ := h1
    exact ⟨h2, v, by rw [hb.block b hlt]; exact h3, h4.kept (row := none) ⟨hb.os, hb.tape, hb.output, hb.size, fun k hk _ => hb.block k hk⟩ (Classical.em _), h5⟩
  rcases h with h | h
  · exact Or.inl (key _ h)
  · exact Or.inr (key _ h)
theorem Bld.lt {W : World} {b : Nat} {l : List UInt8} (h : Bld W b l) : b < W.heap.size := by
  rcases h with h | h <;> exact h.lt
/-- while a builder is filled -/
structure Pm (w W : World) (b : Nat) (out : List UInt8) : Prop where
  lo : w.heap.size ≤ b
  bl : Bld W b out
  hw : b ≤ W.heap.size
  bw : Below w.heap.size w W
theorem Pm.below {w W W1 : World} {b : Nat} {out : List UInt8} (h : Pm w W b out) (hb : Below W.heap.size W W1) : Pm w W1 b out := ⟨h.lo, h.bl.below hb, Nat.le_trans h.hw hb.size, h.bw.trans (hb.mono h.bw.size)⟩
theorem Pm.put {w W W1 : World} {b : Nat} {out out' : List UInt8} (h : Pm w W b out) (hB : Bld W1 b out') (hb : Below b W W1) : Pm w W1 b out' := ⟨h.lo, hB, Nat.le_trans h.hw hb.size, h.bw.trans (hb.mono h.lo)⟩
theorem Pm.cell {w W : World} {b : Nat} {out : List UInt8} (h : Pm w W b out) {a : Addr} {v : Value} (hc : w.cell? a = some v) : W.cell? a = some v := pw_cell_below h.bw hc
theorem Pm.fresh (w : World) : Pm w (w.alloc (.cells #[.pointer none, .slice none 0 0] 36)) w.heap.size [] := ⟨Nat.le_refl _, IsBuilderF.of (fresh_isBuilder 36 5 w), by simp, (Below.refl _ _).alloc (Nat.le_refl _) _⟩
theorem Pm.start {w W : World} (h : Below w.heap.size w W) : Pm w (W.alloc (.cells #[.pointer none, .slice none 0 0] 36)) W.heap.size [] :=
  ⟨h.size, IsBuilderF.of (fresh_isBuilder 36 5 W), by simp, h.alloc h.size _⟩
theorem wb_pm {w W : World} {b : Nat} {l : List UInt8} (c : UInt8) (h : Pm w W b l) (hlen : l.length ≤ 1000000000) :
    Calls Tryd.prog 10 #[.pointer (some ⟨b, 0, none⟩), .int .u8 (c.toNat : Int)] W fun e w' => e = .returned .nilIface ∧ Pm w w' b (l ++ [c]) :=
  (wb_any b l c W h.bl hlen h.hw).mono fun _ _ hh => ⟨hh.1, h.put hh.2.1 hh.2.2.1⟩
theorem wr_pm {w W : World} {b : Nat} {l : List UInt8} (r : Int) (hr0 : -2147483648 ≤ r) (hr1 : r ≤ 2147483647) (h : Pm w W b l) (hlen : l.length ≤ 1000000000) :
    Calls Tryd.prog 13 #[.pointer (some ⟨b, 0, none⟩), .int .i32 r] W fun e w' => ∃ k : Int, e = .returned (.tuple #[.int .i64 k, .nilIface]) ∧ Pm w w' b (l ++ encodeRune r) :=
  (wr_any b l r W hr0 hr1 h.bl hlen h.hw).mono fun _ _ ⟨k, hh⟩ => ⟨k, hh.1, h.put hh.2.1 hh.2.2.1⟩
theorem str_pm {w W : World} {b : Nat} {l : List UInt8} (h : Pm w W b l) :
    Calls Tryd.prog 14 #[.pointer (some ⟨b, 0, none⟩)] W fun e w' => e = .returned (.string ⟨l.toArray⟩) ∧ Pm w w' b l :=
  (str_any b l W h.bl h.hw).mono fun _ _ hh => ⟨hh.1, h.put hh.2.1 hh.2.2.1⟩
/-- and a text is gone through -/
structure Qi (w W : World) (b k : Nat) (s : ByteArray) (pos : Nat) (out : List UInt8) : Prop where
  pm : Pm w W b out
  it : W.heap[k]? = some (.stringIter s pos)
  bk : b < k
section
variable {w W W1 : World} {b k : Nat} {s : ByteArray} {pos : Nat} {out out' : List UInt8}
theorem Qi.lt (h : Qi w W b k s pos out) : k < W.heap.size := (Array.getElem?_eq_some_iff.1 h.it).1
theorem Qi.below (h : Qi w W b k s pos out) (hb : Below W.heap.size W W1) : Qi w W1 b k s pos out := ⟨h.pm.below hb, (hb.block _ h.lt).trans h.it, h.bk⟩
theorem Qi.put (h : Qi w W b k s pos out) (hB : Bld W1 b out') (hb : Below b W W1) (ho : OthersKept 5 (some b) W W1) : Qi w W1 b k s pos out' :=
  ⟨h.pm.put hB hb, ho k _ h.it (by intro e; injection e with e; have := h.bk; omega) (by intro c fz e; cases e), h.bk⟩
theorem Qi.next (h : Qi w W b k s pos out) (pos' : Nat) : Qi w (W.iterAt k s pos') b k s pos' out :=
  ⟨⟨h.pm.lo, h.pm.bl.iterAt h.it pos', by rw [iterAt_size]; exact h.pm.hw, below_iterAt h.pm.bw (Nat.le_trans h.pm.lo (Nat.le_of_lt h.bk)) s pos'⟩, iterAt_heap W k s pos pos' h.it, h.bk⟩
theorem wr_qi (r : Int) (hr0 : -2147483648 ≤ r) (hr1 : r ≤ 2147483647) (h : Qi w W b k s pos out) (hlen : out.length ≤ 1000000000) :
    Calls Tryd.prog 13 #[.pointer (some ⟨b, 0, none⟩), .int .i32 r] W fun e w' => ∃ k' : Int, e = .returned (.tuple #[.int .i64 k', .nilIface]) ∧ Qi w w' b k s pos (out ++ encodeRune r) :=
  (wr_any b out r W hr0 hr1 h.pm.bl hlen h.pm.hw).mono fun _ _ ⟨k', hh⟩ => ⟨k', hh.1, h.put hh.2.1 hh.2.2.1 hh.2.2.2⟩
theorem ws_qi (x : List UInt8) (h : Qi w W b k s pos out) (hlen : out.length + x.length ≤ 140737488355328) :
    Calls Tryd.prog 12 #[.pointer (some ⟨b, 0, none⟩), .string ⟨x.toArray⟩] W fun e w' => e = .returned (.tuple #[.int .i64 x.length, .nilIface]) ∧ Qi w w' b k s pos (out ++ x) :=
  (ws_any b out x W h.pm.bl hlen h.pm.hw).mono fun _ _ hh => ⟨hh.1, h.put hh.2.1 hh.2.2.1 hh.2.2.2⟩
theorem plain_qi {c : Nat} (hc : c ≤ 1114111) (h : Qi w W b k s pos out) (h5 : w.cell? ⟨5, 15, none⟩ = some (.int .u8 4)) :
    Calls Tryd.prog 11 #[.int .i32 (c : Int)] W fun e w' => e = .returned (str (plainQ c)) ∧ Qi w w' b k s pos out :=
  (plain_any c hc W (h.pm.cell h5)).mono fun _ _ hh => ⟨hh.1, h.below hh.2⟩
end
theorem okR_le {r : Nat} (h : okR r) : r ≤ 1114111 := by unfold okR at h; omega

set_option maxRecDepth 100000 in
set_option maxHeartbeats 4000000 in
/-- a text of characters is quoted -/
theorem quote_ok (l : List UInt8) (rs : List Nat) (hc : Chars l rs) (w : World) (hl : l.length ≤ 10000000) (hq : (qS rs).length ≤ 100000000) (hT : Utf8Tabs 0 1 w) (h5 : w.cell? ⟨5, 15, none⟩ = some (.int .u8 4)) :
    Calls Tryd.prog 7 #[str l] w fun e w' => e = .returned (.tuple #[str (34 :: (qS rs ++ [34])), .int .i64 0]) ∧ Below w.heap.size w w' := by
  have cV := valid_any l w (by omega) hT
  rw [(validS_iff l).2 ⟨rs, hc⟩] at cV
  obtain ⟨L, hL⟩ : ∃ L, str l = .string L := ⟨_, rfl⟩
  have HL : Aside (L = ⟨l.toArray⟩) := by show _ = _; injection hL with e; exact e.symm
  rw [hL] at cV ⊢
  clear hL
  go_enter Tryd.func7, Tryd.ntmps7
  go_wp2_with first
    | (go_at_call 8; refine cV.mono ?_; rintro e w1 ⟨rfl, hb1⟩)
    | (go_at_call 10; refine (wb_pm 34 (Pm.start hb1) (by simp)).mono ?_; rintro e w2 ⟨rfl, hP2⟩)
  have hk : w1.heap.size < w2.heap.size := hP2.bl.lt
  go_loopg [] (l.length + 1) (fun gk wx => ∃ (pos : Nat) (rest : List Nat) (out : List UInt8), Qi w wx w1.heap.size w2.heap.size L pos out ∧ (∀ r ∈ rest, okR r) ∧ l.drop pos = encS rest ∧ pos ≤ l.length ∧ l.length - pos < gk ∧ Aside (out ++ qS rest = 34 :: qS rs))
  case atStart =>
    refine ⟨0, rs, [34], ⟨?_, World.iter_heap _ _ _, hk⟩, hc.1, ?_, by omega, by omega, rfl⟩
    · exact ⟨hP2.lo, IsBuilderF.alloc hP2.bl _, by show _ ≤ (w2.heap.push _).size; rw [Array.size_push]; omega, hP2.bw.alloc (by have := hP2.bw.size; omega) _⟩
    · rw [List.drop_zero]; exact hc.2
  case round =>
    obtain ⟨pos, rest, out, hQ, hok, hd, hp, hg, hA⟩ := hrel
    have hLs : L.size = l.length := by rw [HL.out]; simp [ByteArray.size]
    have hol : out.length ≤ 100000001 := by
      have := congrArg List.length hA.out
      rw [List.length_append, List.length_cons] at this
      omega
    cases rest with
    | nil =>
      have hpl : ¬ pos < L.size := by
        have := congrArg List.length hd
        rw [List.length_drop] at this
        simp [encS] at this
        omega
      have hnx : ∀ ty, (Instr.next (.pointer (some ⟨w2.heap.size, 0, none⟩)) true ty).run Tryd.prog wr = _ := fun ty => run_next_end_at wr w2.heap.size L pos ty hQ.it hpl
      have hA2 : Aside (out = 34 :: qS rs) := by
        show _ = _
        have := hA.out
        simpa [qS] using this
      go_wp2_with first
        | (go_at_call 10; refine (wb_pm 34 hQ.pm (by omega)).mono ?_; rintro e w3 ⟨rfl, hP3⟩)
        | (go_at_call 14; refine (str_pm hP3).mono ?_; rintro e w4 ⟨rfl, hP4⟩)
      go_ret2
      refine ⟨?_, hP4.bw⟩
      rw [hA2.out]
      rfl
    | cons r rest =>
      have hr := hok r (by simp)
      rw [encS_cons] at hd
      have hde := dec_enc hr (encS rest)
      rw [← hd, ← decode_list, ← HL.out] at hde
      have hel := enc_len (r : Int)
      have hdl := congrArg List.length hd
      rw [List.length_drop, List.length_append] at hdl
      have hlt : pos < L.size := by omega
      have hnx : ∀ ty, (Instr.next (.pointer (some ⟨w2.heap.size, 0, none⟩)) true ty).run Tryd.prog wr = _ := fun ty => run_next_any_at wr w2.heap.size L pos ty hQ.it hlt
      rw [hde] at hnx
      simp only at hnx
      have hQ2 := hQ.next (pos + (encodeRune (r : Int)).length)
      obtain ⟨W, hW⟩ : ∃ W, wr.iterAt w2.heap.size L (pos + (encodeRune (r : Int)).length) = W := ⟨_, rfl⟩
      rw [hW] at hnx hQ2
      have hrl := okR_le hr
      have hdr : l.drop (pos + (encodeRune (r : Int)).length) = encS rest := by rw [← List.drop_drop, hd, List.drop_left]
      have HD := Lib.hid hdr
      have HO := Lib.hid hok
      have HDL := Lib.hid hdl
      clear hd hde hdr hok hW hdl
      by_cases hpn : plainQ r = []
      · have hA2 : Aside ((out ++ encodeRune (r : Int)) ++ qS rest = 34 :: qS rs) := by
          have := hA.out
          rw [qS_cons] at this
          unfold qR at this
          rw [if_pos hpn] at this
          show _ = _
          rw [List.append_assoc]
          exact this
        have cP := fun W' (h : Qi w W' w1.heap.size w2.heap.size L (pos + (encodeRune (r : Int)).length) out) => plain_qi (c := r) hrl h h5
        rw [hpn] at cP
        clear hA
        go_wp2_with first
          | (go_at_call 11; refine (cP _ hQ2).mono ?_; rintro e w3 ⟨rfl, hQ3⟩)
          | (go_at_call 13; refine (wr_qi (r : Int) (by omega) (by omega) hQ3 (by omega)).mono ?_; rintro e w4 ⟨k4, rfl, hQ4⟩)
        go_roundg (gk - 1)
        case measure => omega
        case rel => exact ⟨_, rest, _, hQ4, fun x hx => HO.out x (List.mem_cons_of_mem _ hx), HD.out, by have := HDL.out; omega, by have := HDL.out; omega, hA2⟩
      · have hA2 : Aside ((out ++ plainQ r) ++ qS rest = 34 :: qS rs) := by
          have := hA.out
          rw [qS_cons] at this
          unfold qR at this
          rw [if_neg hpn] at this
          show _ = _
          rw [List.append_assoc]
          exact this
        have hpl2 : out.length + (plainQ r).length ≤ 100000001 := by
          have := congrArg List.length hA2.out
          rw [List.length_append, List.length_append, List.length_cons] at this
          omega
        obtain ⟨p, hpp⟩ : ∃ p, plainQ r = p := ⟨_, rfl⟩
        have cP := fun W' (h : Qi w W' w1.heap.size w2.heap.size L (pos + (encodeRune (r : Int)).length) out) => plain_qi (c := r) hrl h h5
        rw [hpp] at cP hpn hpl2 hA2
        have hne : (p == []) = false := by simpa using hpn
        clear hA hpp
        go_wp2_with first
          | (go_at_call 11; refine (cP _ hQ2).mono ?_; rintro e w3 ⟨rfl, hQ3⟩)
          | (go_at_call 12; refine (ws_qi p hQ3 (by omega)).mono ?_; rintro e w4 ⟨rfl, hQ4⟩)
        go_roundg (gk - 1)
        case measure => omega
        case rel => exact ⟨_, rest, _, hQ4, fun x hx => HO.out x (List.mem_cons_of_mem _ hx), HD.out, by have := HDL.out; omega, by have := HDL.out; omega, hA2⟩

set_option maxRecDepth 100000 in
/-- a text that is none of characters is not -/
theorem quote_bad (l : List UInt8) (hv : validS l = false) (w : World) (hl : l.length ≤ 10000000) (hT : Utf8Tabs 0 1 w) :
    Calls Tryd.prog 7 #[str l] w fun e w' => e = .returned (.tuple #[str [], .int .i64 30]) ∧ Below w.heap.size w w' := by
  have cV := valid_any l w (by omega) hT
  rw [hv] at cV
  go_enter Tryd.func7, Tryd.ntmps7
  go_wp2_with (go_at_call 8; refine cV.mono ?_; rintro e w1 ⟨rfl, hb1⟩)
  go_ret2
  exact ⟨rfl, hb1⟩
end Go.Proofs.YthlijkpeafgenaaDoor
