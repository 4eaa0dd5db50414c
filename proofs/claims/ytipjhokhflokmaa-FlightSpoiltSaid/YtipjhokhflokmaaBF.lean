/- Made's flights: someone waits for each. -/
import Derived.Test.YtipjhokhflokmaaAX
import Derived.ArgAppend
set_option linter.unusedVariables false
set_option linter.unusedSimpArgs false
namespace Go.Proofs.Ytipjhokhflokmaa
open Go.RowKit Go.Maps
open Go.Proofs.YtipjhokhflokmaaW.PrintWords

def NX (x : Fl) : Prop := 1 ≤ x.ws.length ∧ okI x.id ∧ x.data.length ≤ 4096
def NE (fs : List Fl) : Prop := ∀ x ∈ fs, NX x
theorem NE.nil : NE [] := fun x hx => by cases hx
theorem NE.set {fs : List Fl} (h : NE fs) (k : Nat) {x : Fl} (hx : NX x) : NE (fs.set k x) := fun y hy => by
  rcases List.mem_or_eq_of_mem_set hy with h1 | rfl
  · exact h y h1
  · exact hx
theorem NE.cut {fs : List Fl} (h : NE fs) (k : Nat) : NE (cutAt fs k) := fun y hy => by
  rcases List.mem_append.1 hy with h1 | h1
  · exact h y (List.mem_of_mem_take h1)
  · exact h y (List.mem_of_mem_drop h1)
theorem NE.at_ {fs : List Fl} (h : NE fs) {k : Nat} {x : Fl} (hx : fs[k]? = some x) : NX x := h x (List.mem_of_getElem? hx)
theorem NE.end_ {fs : List Fl} (h : NE fs) (room next id : Int) : NE (endOp room next fs id).1 := by
  unfold endOp
  split
  · exact h
  · split
    · exact h
    · show NE (updAt _ _ _)
      unfold updAt
      split
      · rename_i x hx
        exact h.set _ ⟨(h.at_ hx).1, (h.at_ hx).2⟩
      · exact h
theorem NE.fail {fs : List Fl} (h : NE fs) (room next id most : Int) : NE (failOp room next fs id most).1 := by
  unfold failOp
  split
  · exact h
  · split
    · exact h
    · split
      · exact h
      · rename_i x hx
        split
        · exact h.set _ ⟨(h.at_ hx).1, (h.at_ hx).2.1, Nat.zero_le _⟩
        · exact h.cut _
theorem NE.take {fs : List Fl} (h : NE fs) (room next wt n : Int) : NE (takeOp room next fs wt n).1 := by
  unfold takeOp
  split
  · exact h
  · split
    · exact h
    · split
      · exact h
      · rename_i x hx
        split
        · exact h
        · rename_i t ht
          refine h.set _ ⟨?_, (h.at_ hx).2⟩
          show 1 ≤ (x.ws.set _ _).length
          rw [List.length_set]
          exact (h.at_ hx).1
theorem NE.leave {fs : List Fl} (h : NE fs) (room next wt : Int) : NE (leaveOp room next fs wt).1 := by
  unfold leaveOp
  split
  · exact h
  · split
    · exact h
    · split
      · exact h
      · rename_i x hx
        split
        · exact h.cut _
        · rename_i hn
          exact h.set _ ⟨Nat.pos_of_ne_zero hn, (h.at_ hx).2⟩
theorem NE.join {fs : List Fl} (h : NE fs) (room next : Int) (key : List UInt8) (wt : Int) (share : Bool) (hk : okI next) : NE (joinOp room next fs key wt share).fs := by
  unfold joinOp
  split
  · exact h
  · split
    · exact h
    · split
      · split
        · exact h
        · split
          · exact h
          · intro y hy
            rcases List.mem_append.1 hy with h2 | h2
            · exact h y h2
            · obtain rfl : y = newF key share next wt := by simpa using h2
              exact ⟨Nat.le_refl 1, hk, Nat.zero_le _⟩
      · split
        · exact h
        · rename_i x hx
          refine h.set _ ⟨?_, (h.at_ hx).2⟩
          show 1 ≤ (x.ws ++ [(⟨wt, 0⟩ : Tm)]).length
          rw [List.length_append]
          exact Nat.le_add_left _ _
theorem roomS_ne {x : Fl} (h : NX x) : NX (roomS x).1 := by
  unfold roomS
  split
  · refine ⟨h.1, h.2.1, ?_⟩
    show (x.data.drop _).length ≤ 4096
    rw [List.length_drop]
    have := h.2.2
    omega
  · split
    · exact h
    · rename_i hf
      exact ⟨List.length_pos_iff.2 hf, h.2⟩
theorem Goes.ne {room : Int} {s : List UInt8} {a b : FS} (g : Goes room s a b) (hr : room ≤ 4096) (h : NX a.x) : NX b.x := by
  induction g with
  | refl => exact h
  | step h1 _ ih =>
    rename_i a b c _
    refine ih ?_
    unfold stepF at h1
    split at h1
    · cases h1
    · split at h1
      · rename_i hd
        injection h1 with h1
        subst h1
        refine ⟨h.1, h.2.1, ?_⟩
        show (a.x.data ++ [_]).length ≤ 4096
        rw [List.length_append, List.length_singleton]
        omega
      · split at h1
        · injection h1 with h1
          subst h1
          exact roomS_ne h
        · cases h1
theorem feedX_ne {room : Int} {s : List UInt8} {x : Fl} (hr : room ≤ 4096) (hx : NX x) : NX (feedX room s x).x := by
  by_cases h : ∃ e, Goes room s ⟨x, 0, []⟩ e ∧ stepF room s e = none
  · obtain ⟨e, g, he⟩ := h
    rw [feedX_eq g he]
    exact g.ne hr hx
  · unfold feedX
    rw [dif_neg h]
    exact hx
theorem NE.feed {fs : List Fl} (h : NE fs) {room : Int} (hr : room ≤ 4096) (next id : Int) (s : List UInt8) : NE (feedOp room next fs id s).1 := by
  unfold feedOp
  split
  · exact h
  · split
    · exact h
    · split
      · exact h
      · rename_i x hx
        split
        · exact h
        · exact h.set _ (feedX_ne hr (h.at_ hx))
theorem NE.step {s : MS} (h : NE s.fs) (hk : okI s.next) {room : Int} (hr : room ≤ 4096) (i b : Nat) : NE (stepM room s i b).fs := by
  unfold stepM
  split
  · exact h.join _ _ _ _ _ hk
  · split
    · exact h.feed hr _ _ _
    · split
      · exact h.take _ _ _ _
      · split
        · exact h.leave _ _ _
        · split
          · exact h.end_ _ _ _
          · split
            · exact h.fail _ _ _ _
            · exact h.take _ _ _ _
theorem madeK_ne {room : Int} (hr : room ≤ 4096) (l : List Nat) : ∀ k, k ≤ 1000 → NE (madeK room l k).fs
  | 0, _ => NE.nil
  | k + 1, hk => (madeK_ne hr l k (by omega)).step (by have := (madeK_ok room l k).n; unfold okI; omega) hr k _
theorem madeS_ne {room : Int} (hr : room ≤ 4096) (l : List Nat) : NE (madeS room l).fs := madeK_ne hr l _ (by omega)
/-- the first one, where there was none -/
theorem joinE {room next : Int} (h1 : 1 ≤ room) (h2 : room ≤ 4096) (h3 : 0 ≤ next) (h4 : next ≤ 1000) : joinOp room next [] [97] 1 true = ⟨[newF [97] true next 1], next + 1, next, true, 0⟩ := by
  have hr : rightS room next [] = true := rightS_yes (by unfold badR; simp only [List.length_nil]; omega) (by simp) (by simp) (by simp [allw])
  have hb : ¬ badJ room next [] [97] 1 := by
    rintro (h | h | h)
    · rw [hr] at h; cases h
    · omega
    · simp at h
  have hw : (waitsS [] 1).1 = -1 := rfl
  have ho : openF [] [97] true = -1 := rfl
  rw [joinOpN hb (by rw [hw]; decide) (by rw [ho]; decide), if_neg (by simp), if_neg (by omega)]
  rfl
/-- while one thing is spoilt -/
structure SpF (w W : World) (bx : Nat) (room nx : Int) (A : Option Addr) (n c : Nat) (zs : List FV) : Prop where
  xb : W.heap[bx]? = some (.cells #[.int .i64 room, .int .i64 nx, .slice A n c] 26 (0, 0))
  ow : OwF W w.heap.size (.slice A n c) zs
  ne : NE (fls zs)
  k : SmK 61 (fls zs)
  bw : Below w.heap.size w W
  lo : w.heap.size ≤ bx
/-- behind it: the flights are read; x is where it was -/
structure SpR (w W : World) (bx : Nat) (room nx : Int) (A : Option Addr) (n c : Nat) (zs : List FV) (b o : Nat) (id : Int) : Prop where
  xb : W.heap[bx]? = some (.cells #[.int .i64 room, .int .i64 nx, .slice A n c] 26 (0, 0))
  rd : RdF W (.slice A n c) zs
  k : SmK 900 (fls zs)
  bw : Below w.heap.size w W
  lt : b < W.heap.size
  ci : W.cell? ⟨b, o + 2, none⟩ = some (.int .i64 id)
  ok : okI id
theorem SpR.below {w W W1 : World} {bx : Nat} {room nx : Int} {A : Option Addr} {n c : Nat} {zs : List FV} {b o : Nat} {id : Int} (h : SpR w W bx room nx A n c zs b o id) (hb : Below W.heap.size W W1) : SpR w W1 bx room nx A n c zs b o id :=
  ⟨keep hb h.xb, h.rd.below hb, h.k, h.bw.trans (hb.mono h.bw.size), Nat.lt_of_lt_of_le h.lt hb.size, (hb.cell (p := ⟨b, o + 2, none⟩) h.lt).trans h.ci, h.ok⟩
/-- append where there is no room: all stays as it was -/
theorem run_appE_grow {α : Type} {enc : α → List Value} {m : Nat} {P : Program} (w : World) (base : Nat) (t ty e : TypeId) (z : Value) (bytes : Nat) (ht : P.underlying t = some (.slice e)) (hinfo : (P.info? e).map (fun i => (i.zero, i.size, i.bytes)) = some (some z, m, bytes)) (hz : z.cells.size = m) (hm0 : 0 < m)
    {b off n c : Nat} {src : Value} {xs ys : List α} (hown : OwE enc m e w base (.slice (some ⟨b, off, none⟩) n c) xs) (hn : 0 < n) (hsrc : RdE enc m w src ys) (hroom : c < n + ys.length)
    (hbytes : (xs.length + ys.length) * bytes ≤ 140737488355328) (hb0 : 0 < bytes) (hbase : base ≤ w.heap.size) :
    ∃ v' w', (Builtin.append_ #[t, t] ty #[.slice (some ⟨b, off, none⟩) n c, src]).run P w = .ok v' w' ∧ OwE enc m e w' base v' (xs ++ ys) ∧ w.grownBy w' none := by
  obtain ⟨i0, hi, hzz⟩ := Option.map_eq_some_iff.1 hinfo
  simp only [Prod.mk.injEq] at hzz
  obtain ⟨hz0, hz1, hz2⟩ := hzz
  have hlen : xs.length + ys.length ≤ 140737488355328 := Nat.le_trans (Nat.le_mul_of_pos_right _ hb0) hbytes
  have hln : xs.length = n := hown.rd.len
  have hm := hown.1
  obtain ⟨b1, off1, hA, _, _, hnc, hcell, _⟩ := hown.form hn
  injection hA with hA
  injection hA with e1 e2
  subst e1; subst e2
  obtain ⟨A, d, rfl, hl, hmx, hr⟩ := hsrc
  have hp : 0 < ys.length := by omega
  obtain ⟨sb, so, rfl, hlt, hc⟩ := hr hp
  obtain ⟨v', w', hrun, ho, hg⟩ := run_append_arg_grows (P := P) (w := w) t ty e i0 z m bytes ht hi hz0 hz1 hz2 hz hm0 ⟨b, off, none⟩ n c (xs.flatMap enc) (by rw [fm_len hm, hln]) (fun q u hj => by
      obtain ⟨i, j, y, rfl, hy, hu⟩ := fm_of hm hj
      rw [add_at, ← Nat.add_assoc]
      exact hcell i j y u hy hu) ⟨sb, so, none⟩ ys.length d (ys.flatMap enc) (fm_len hm ys) (fun q u hj => by
      obtain ⟨i, j, y, rfl, hy, hu⟩ := fm_of hm hj
      rw [add_at, ← Nat.add_assoc]
      exact hc i j y u hy hu) hroom (by simp only [maxLen]; omega) (by rw [← hln]; exact hbytes)
  refine ⟨v', w', hrun, ⟨hm, ?_⟩, hg⟩
  rw [List.length_append, List.flatMap_append, hln]
  exact q_lower (q_of_own ho) hbase
section
variable {α : Type} {enc : α → List Value} {m : Nat} {P : Program} {ops : Array Oper} {o : Oper} {a : Act} {Kc : Act → World → Prop} {Q' : Exit → Act → World → Prop} {E : Prop}
theorem wp_app_stepE_grow {W : World} (base : Nat) (hgd : o.guard = none) (s x : Operand) (t e : TypeId) (z : Value) (bytes : Nat)
    (ho : o.op = .call { callee := .builtin .append, args := #[s, x], argTypes := #[t, t] })
    (ht : P.underlying t = some (.slice e)) (hinfo : (P.info? e).map (fun i => (i.zero, i.size, i.bytes)) = some (some z, m, bytes)) (hz : z.cells.size = m) (hm0 : 0 < m) (hb0 : 0 < bytes)
    {b off n c : Nat} (src : Value) (xs ys : List α) (hs : a.eval s = .slice (some ⟨b, off, none⟩) n c) (hx : a.eval x = src)
    (hown : OwE enc m e W base (.slice (some ⟨b, off, none⟩) n c) xs) (hn : 0 < n) (hsrc : RdE enc m W src ys) (hroom : c < n + ys.length) (hbytes : (xs.length + ys.length) * bytes ≤ 140737488355328) (hbase : base ≤ W.heap.size)
    (h : ∀ v1 w1, OwE enc m e w1 base v1 (xs ++ ys) → W.grownBy w1 none → Kc (a.put o.dst v1) w1) :
    if Region.wanted o (yielded ops a.tmps) = true then Oper.wp P o a W Kc Q' else E := by
  obtain ⟨v1, w1, hr1, h2, hg⟩ := run_appE_grow (P := P) W base t o.type e z bytes ht hinfo hz hm0 hown hn hsrc hroom hbytes hb0 hbase
  have hw : Region.wanted o (yielded ops a.tmps) = true := by simp [Region.wanted, hgd]
  rw [if_pos hw]
  unfold Oper.wp execOp
  simp only [ho, resolve, invoke, builtin, Sem.run_bind, Sem.run_pure, Result.andThen_ok, List.map_toArray, List.map_cons, List.map_nil, hs, hx, hr1]
  exact h v1 w1 h2 hg
end
section
variable {w W : World} {bx : Nat} {room nx : Int} {b off n c : Nat} {zs : List FV} {k : Nat} {x : Fl} {S : Sl}
theorem SpF.below {A : Option Addr} {W1 : World} (h : SpF w W bx room nx A n c zs) (hb : Below W.heap.size W W1) : SpF w W1 bx room nx A n c zs :=
  ⟨keep hb h.xb, h.ow.below hb, h.ne, h.k, h.bw.trans (hb.mono h.bw.size), h.lo⟩
theorem SpF.bne (h : SpF w W bx room nx (some ⟨b, off, none⟩) n c zs) : bx ≠ b := by
  obtain ⟨cur, hcur⟩ := h.ow.o.typed b rfl
  exact blocks_ne (by decide) h.xb hcur
theorem SpF.r (h : SpF w W bx room nx (some ⟨b, off, none⟩) n c zs) (hz : zs[k]? = some (x, S)) : SpR w W bx room nx (some ⟨b, off, none⟩) n c zs b (off + k * 8) x.id := by
  obtain ⟨cur, hcur⟩ := h.ow.o.typed b rfl
  exact ⟨h.xb, h.ow.rd, h.k.up (by omega), h.bw, (Array.getElem?_eq_some_iff.1 hcur).1, (h.ow.cell hz (j := 2) rfl).1, (h.ne.at_ (fls_at hz)).2.1⟩
theorem SmX.up9 {x : Fl} (h : SmX 61 x) : SmX 900 x := h.up (by omega)
theorem grown_none {W W1 : World} (h : W.grownBy W1 none) (b : Nat) : W.grownBy W1 (some b) := ⟨h.os, h.tape, h.output, h.size, fun k hk _ => h.block k hk (by simp)⟩
theorem SpF.keepb {W1 : World} (h : SpF w W bx room nx (some ⟨b, off, none⟩) n c zs) (hg : W.grownBy W1 (some b)) : W1.heap[bx]? = some (.cells #[.int .i64 room, .int .i64 nx, .slice (some ⟨b, off, none⟩) n c] 26 (0, 0)) := gb_box hg h.xb (fun he => h.bne (by injection he))
theorem OwE.id45 {W1 : World} {base m : Nat} (h : OwE fenc 8 45 W1 base (.slice (some ⟨b, off, none⟩) m c) (zs ++ [(x, S)])) {y : FV} (hz : zs[k]? = some y) : W1.cell? ⟨b, off + k * 8 + 2, none⟩ = some (.int .i64 y.1.id) := by
  have hk := (List.getElem?_eq_some_iff.1 hz).1
  have hl : (zs ++ [(x, S)]).length = m := h.rd.len
  obtain ⟨b1, o1, hA, _, _, _, hc, _⟩ := h.form (by rw [← hl]; simp)
  injection hA with hA
  injection hA with e1 e2
  subst e1; subst e2
  exact hc k 2 y _ (by rw [List.getElem?_append_left hk]; exact hz) rfl
/-- one field of x is spoilt -/
theorem SpF.one (h : SpF w W bx room nx (some ⟨b, off, none⟩) n c zs) (hz : zs[k]? = some (x, S)) (x' : Fl) (j : Nat) (hj : j < 8) {v : Value} (hx : fenc (x', S) = (fenc (x, S)).set j v) (hw : x'.ws = x.ws) (hok : okI x'.id) :
    SpR w (W.setCell ⟨b, off + k * 8 + j, none⟩ v) bx room nx (some ⟨b, off, none⟩) n c (zs.set k (x', S)) b (off + k * 8) x'.id := by
  have ho := h.ow.put1 hz j hj hx hw
  have hk := (List.getElem?_eq_some_iff.1 hz).1
  have h1 := h.k.at_ (fls_at hz)
  obtain ⟨cur, hcur⟩ := ho.o.typed b rfl
  refine ⟨?_, ho.rd, ?_, h.bw.setCell (h.ow.o.lo b rfl) _, (Array.getElem?_eq_some_iff.1 hcur).1, (ho.cell (List.getElem?_set_self hk) (j := 2) rfl).1, hok⟩
  · rw [Below.heap_setCell _ _ _ _ h.bne]
    exact h.xb
  · rw [fls_set rfl]
    exact (h.k.up (by omega)).set k (SmX.up9 ⟨by rw [hw]; exact h1.1, by rw [hw]; exact h1.2⟩)
/-- what all of them go by is spoilt -/
theorem SpF.room_ (h : SpF w W bx room nx (some ⟨b, off, none⟩) n c zs) (hz : zs[k]? = some (x, S)) (m : Int) : SpR w (W.setCell ⟨bx, 0, none⟩ (.int .i64 m)) bx m nx (some ⟨b, off, none⟩) n c zs b (off + k * 8) x.id := by
  have ho := h.ow.far h.xb (by decide) (by decide) 0 (.int .i64 m)
  obtain ⟨cur, hcur⟩ := ho.o.typed b rfl
  refine ⟨?_, ho.rd, h.k.up (by omega), h.bw.setCell h.lo _, (Array.getElem?_eq_some_iff.1 hcur).1, (ho.cell hz (j := 2) rfl).1, (h.ne.at_ (fls_at hz)).2.1⟩
  rw [heap_set h.xb]
  rfl
theorem SpF.next_ (h : SpF w W bx room nx (some ⟨b, off, none⟩) n c zs) (hz : zs[k]? = some (x, S)) (m : Int) : SpR w (W.setCell ⟨bx, 1, none⟩ (.int .i64 m)) bx room m (some ⟨b, off, none⟩) n c zs b (off + k * 8) x.id := by
  have ho := h.ow.far h.xb (by decide) (by decide) 1 (.int .i64 m)
  obtain ⟨cur, hcur⟩ := ho.o.typed b rfl
  refine ⟨?_, ho.rd, h.k.up (by omega), h.bw.setCell h.lo _, (Array.getElem?_eq_some_iff.1 hcur).1, (ho.cell hz (j := 2) rfl).1, (h.ne.at_ (fls_at hz)).2.1⟩
  rw [heap_set h.xb]
  rfl
/-- no one waits -/
theorem SpF.nobody (h : SpF w W bx room nx (some ⟨b, off, none⟩) n c zs) (hz : zs[k]? = some (x, S)) : SpR w (W.setCell ⟨b, off + k * 8 + 7, none⟩ (.slice none 0 0)) bx room nx (some ⟨b, off, none⟩) n c (zs.set k ({ x with ws := [] }, ⟨none, 0, 0⟩)) b (off + k * 8) x.id := by
  have hk := (List.getElem?_eq_some_iff.1 hz).1
  have ho := h.ow.put7 (x' := { x with ws := [] }) (S' := ⟨none, 0, 0⟩) hz rfl (OwE.nil tencL _ _ _) (fun i y _ _ q _ hq => by simp [Value.ownBlock] at hq)
  obtain ⟨cur, hcur⟩ := ho.o.typed b rfl
  refine ⟨?_, ho.rd, ?_, h.bw.setCell (h.ow.o.lo b rfl) _, (Array.getElem?_eq_some_iff.1 hcur).1, (ho.cell (List.getElem?_set_self hk) (j := 2) rfl).1, (h.ne.at_ (fls_at hz)).2.1⟩
  · rw [Below.heap_setCell _ _ _ _ h.bne]
    exact h.xb
  · rw [fls_set rfl]
    exact (h.k.up (by omega)).set k ⟨Nat.zero_le _, fun t ht => by cases ht⟩
/-- one waiter is spoilt -/
theorem SpF.wait {b2 o2 m d : Nat} (h : SpF w W bx room nx (some ⟨b, off, none⟩) n c zs) (hz : zs[k]? = some (x, ⟨some ⟨b2, o2, none⟩, m, d⟩)) {t t' : Tm} (ht : x.ws[0]? = some t) (j : Nat) (hj : j < 2) {v : Value} (hx : tenc t' = (tenc t).set j v) (hok : okI t'.id) :
    SpR w (W.setCell ⟨b2, o2 + j, none⟩ v) bx room nx (some ⟨b, off, none⟩) n c (zs.set k ({ x with ws := x.ws.set 0 t' }, ⟨some ⟨b2, o2, none⟩, m, d⟩)) b (off + k * 8) x.id := by
  have hk := (List.getElem?_eq_some_iff.1 hz).1
  have ho := h.ow.putW hz ht j hj hx
  rw [Nat.zero_mul, Nat.add_zero] at ho
  have h1 := h.k.at_ (fls_at hz)
  obtain ⟨cur, hcur⟩ := ho.o.typed b rfl
  obtain ⟨cur2, hcur2⟩ := (h.ow.r k _ hz).typed b2 rfl
  refine ⟨?_, ho.rd, ?_, h.bw.setCell ((h.ow.r k _ hz).lo b2 rfl) _, (Array.getElem?_eq_some_iff.1 hcur).1, (ho.cell (List.getElem?_set_self hk) (j := 2) rfl).1, (h.ne.at_ (fls_at hz)).2.1⟩
  · rw [Below.heap_setCell _ _ _ _ (blocks_ne (by decide) h.xb hcur2)]
    exact h.xb
  · rw [fls_set rfl]
    refine (h.k.up (by omega)).set k (SmX.up9 ⟨by rw [List.length_set]; exact h1.1, fun u hu => ?_⟩)
    rcases List.mem_or_eq_of_mem_set hu with h2 | rfl
    · exact h1.2 u h2
    · exact hok
/-- one more waits -/
theorem SpF.more {W1 : World} {B : Option Addr} {m d : Nat} (h : SpF w W bx room nx (some ⟨b, off, none⟩) n c zs) (hz : zs[k]? = some (x, S)) {t : Tm} (hO : OwE tenc 2 47 W1 w.heap.size (.slice B m d) (x.ws ++ [t])) (hg : W.grownBy W1 S.v.ownBlock)
    (hat : (Value.slice B m d).ownBlock = S.v.ownBlock ∨ ∃ q, (Value.slice B m d).ownBlock = some q ∧ W.heap.size ≤ q) (hok : okI t.id) :
    SpR w (W1.setCell ⟨b, off + k * 8 + 7, none⟩ (.slice B m d)) bx room nx (some ⟨b, off, none⟩) n c (zs.set k ({ x with ws := x.ws ++ [t] }, ⟨B, m, d⟩)) b (off + k * 8) x.id := by
  have hk := (List.getElem?_eq_some_iff.1 hz).1
  have ho := h.ow.addW (S' := ⟨B, m, d⟩) hz hO hg hat
  have h1 := h.k.at_ (fls_at hz)
  obtain ⟨cur, hcur⟩ := ho.o.typed b rfl
  refine ⟨addW_box h.ow hz hg h.xb (by decide) (by decide) _ _, ho.rd, ?_, (h.bw.grown hg h.bw.size (fun q hq => (h.ow.r k _ hz).lo q hq)).setCell (h.ow.o.lo b rfl) _, (Array.getElem?_eq_some_iff.1 hcur).1, (ho.cell (List.getElem?_set_self hk) (j := 2) rfl).1, (h.ne.at_ (fls_at hz)).2.1⟩
  rw [fls_set rfl]
  refine (h.k.up (by omega)).set k ⟨?_, fun u hu => ?_⟩
  · have h9 : x.ws.length ≤ 61 := h1.1
    simp only [List.length_append, List.length_cons, List.length_nil]
    omega
  · rcases List.mem_append.1 hu with h2 | h2
    · exact h1.2 u h2
    · obtain rfl : u = t := by simpa using h2
      exact hok
/-- x is there twice -/
theorem SpF.twice {W1 : World} {B : Option Addr} {m d : Nat} (h : SpF w W bx room nx (some ⟨b, off, none⟩) n c zs) (hz : zs[k]? = some (x, S)) (hO : OwE fenc 8 45 W1 w.heap.size (.slice B m d) (zs ++ [(x, S)])) (hg : W.grownBy W1 (some b)) (hcx : W1.cell? ⟨b, off + k * 8 + 2, none⟩ = some (.int .i64 x.id)) :
    SpR w (W1.setCell ⟨bx, 2, none⟩ (.slice B m d)) bx room nx B m d (zs ++ [(x, S)]) b (off + k * 8) x.id := by
  have nt : ∀ {U : Value} {es : List Tm}, OwE tenc 2 47 W w.heap.size U es → OwE tenc 2 47 W1 w.heap.size U es := fun hU => hU.grown hg (fun q hq he => by
    obtain ⟨c1, h1⟩ := hU.typed q hq
    obtain ⟨c2, h2⟩ := h.ow.o.typed b rfl
    injection he with he
    exact blocks_ne (by decide) h1 h2 he)
  have hb1 : W1.heap[bx]? = some (.cells #[.int .i64 room, .int .i64 nx, .slice (some ⟨b, off, none⟩) n c] 26 (0, 0)) := gb_box hg h.xb (fun he => h.bne (by injection he))
  have hb2 : W1.heap[b]? ≠ none := by
    intro hn
    unfold World.cell? at hcx
    simp [hn] at hcx
  have hlt : b < W1.heap.size := by
    by_cases hh : b < W1.heap.size
    · exact hh
    · exact absurd (Array.getElem?_eq_none (by omega)) hb2
  refine ⟨?_, ⟨?_, fun i y hy => ?_⟩, ?_, (h.bw.grown hg h.bw.size (fun q hq => by injection hq with hq; subst hq; exact h.ow.o.lo b rfl)).setCell h.lo _, by simpa using hlt, cell_set hcx (fun he => h.bne he.symm), (h.ne.at_ (fls_at hz)).2.1⟩
  · rw [heap_set hb1]
    rfl
  · exact (fs_far hO hb1 (by decide) _ _).rd
  · have far : ∀ {U : Value} {es : List Tm}, OwE tenc 2 47 W w.heap.size U es → RdE tenc 2 (W1.setCell ⟨bx, 2, none⟩ (.slice B m d)) U es := fun hU => (ts_far (nt hU) hb1 (by decide) _ _).rd
    rw [List.getElem?_append] at hy
    split at hy
    · exact far (h.ow.r i y hy)
    · have := List.mem_of_getElem? hy
      obtain rfl : y = (x, S) := by simpa using this
      exact far (h.ow.r k _ hz)
  · have h1 := h.k.at_ (fls_at hz)
    have h2 := h.k.n
    simp only [fls, List.map_append, List.map_cons, List.map_nil] at h2 ⊢
    refine ⟨by simp at h2 ⊢; omega, fun y hy => ?_⟩
    rcases List.mem_append.1 hy with h3 | h3
    · exact (h.k.x y h3).up9
    · obtain rfl : y = x := by simpa using h3
      exact h1.up9
end
end Go.Proofs.Ytipjhokhflokmaa
