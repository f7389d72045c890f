/- Values and triples: what is known of the program's variables; what a predicate's name is. triple.Pred, by hand. -/
import Derived.Test.YtnhfkdgambncfaaGreatDoorQS14x
import Derived.Test.YtnhfkdgambncfaaGreatDoorProg
import Derived.Laws.RangeString
import Derived.Lib.TrailingZeros
set_option linter.unusedVariables false
set_option linter.unusedSimpArgs false
set_option linter.unusedSectionVars false
namespace Go.Proofs.YtnhfkdgambncfaaGreatDoor.XT
open Go Go.RowKit Go.Proofs.YtnhfkdgambncfaaGreatDoor.Sv
set_option maxRecDepth 100000
def valT : DT := .t [(.i .u8), .b, (.i .i64), .s, (.i .u64)]
def triT : DT := .t [(.i .u64), .s, valT]
def wrT : DT := .t [.b, triT]
def schT : DT := .t [.s, (.i .u8), .b, .b, .b, .b, .b, .b]
theorem mo : Tryz.prog.follows .mixedOrders = true := by kernel_rfl
/-- cells of numbers -/
def numCells (k : IntKind) (l : List Int) : Array Value := (l.map (Value.int k)).toArray
def pow10s : List Int := (List.range 20).map fun i => ((10 ^ i : Nat) : Int)
/-- what is known of the program's variables -/
structure GlOK (w : World) : Prop where
  size : 6 ≤ w.heap.size
  len : ∃ m t, w.heap[1]? = some (.cells #[.int .i64 m] t (0, 0))
  pow : ∃ t, w.heap[0]? = some (.cells (numCells .u64 pow10s) t (0, 0))
  tz : ∃ t, w.heap[5]? = some (.cells (numCells .u8 (Lib.deBruijn64tab.map Int.ofNat)) t (0, 0))
def gl : Gl := ⟨6, GlOK, fun _ h => h.size, fun w w' h hs hb => ⟨Nat.le_trans h.size hs, by rw [hb 1 (by omega)]; exact h.len, by rw [hb 0 (by omega)]; exact h.pow, by rw [hb 5 (by omega)]; exact h.tz⟩⟩
abbrev byteA (s : ByteArray) (i : Nat) : Int := byteAt' s i
def predC (n : Int) : Bool := !((decide (n < 97) || decide (122 < n)) && (decide (n < 48) || decide (57 < n)) && !(decide (n = 95)) && !(decide (n = 46)))
def predHead (s : ByteArray) : Bool := !(decide ((s.size : Int) < 1) || decide (64 < (s.size : Int)) || decide (byteAt' s 0 < 97) || decide (122 < byteAt' s 0))
def predB (s : ByteArray) : Bool := predHead s && (List.range s.size).all fun i => predC (byteAt' s i)
/-- fields of a value -/
def mayV (v : D) : Bool := if (D.int (D.fld v 0)) = 1 then decide ((D.int (D.fld v 2)) = 0) && decide ((D.str (D.fld v 3)) = (ByteArray.mk #[])) && decide ((D.int (D.fld v 4)) = 0) else if (D.int (D.fld v 0)) = 2 then !((D.bool (D.fld v 1))) && decide ((D.str (D.fld v 3)) = (ByteArray.mk #[])) && decide ((D.int (D.fld v 4)) = 0) else if (D.int (D.fld v 0)) = 3 then !((D.bool (D.fld v 1))) && decide ((D.int (D.fld v 2)) = 0) && decide ((D.int (D.fld v 4)) = 0) && decide ((((D.str (D.fld v 3))).size : Int) ≤ 4096) else if (D.int (D.fld v 0)) = 4 then !((D.bool (D.fld v 1))) && decide ((D.int (D.fld v 2)) = 0) && decide ((D.str (D.fld v 3)) = (ByteArray.mk #[])) && decide (0 < (D.int (D.fld v 4))) else false
/-! ### triple.Pred: a range over a text, by hand -/
def sqA : Code → Code | .seq a _ => a | c => c
def sqB : Code → Code | .seq _ b => b | c => c
def blB : Code → Code | .block _ b => b | c => c
def lpB : Code → Code | .loop b => b | c => c
def rgL : Code → List Oper | .region _ ops _ => ops.toList | _ => []
def rgO (c : Code) (i : Nat) : Oper := (rgL c).getD i default
noncomputable def pB : Code := (Tryz.f14.body).getD .skip
theorem decode_high {s : ByteArray} {i : Nat} (h : 128 ≤ (s.get! i).toNat) : 128 ≤ (Utf8.decode s i).1 := by
  unfold Utf8.decode
  simp only [Nat.add_zero]
  have h0 : ¬ (s.get! i).toNat < 128 := by omega
  rw [if_neg h0]
  repeat' split
  all_goals first | decide | (simp only [Utf8.runeError]; omega) | (simp only [ge_iff_le, Bool.and_eq_true, decide_eq_true_eq] at *; omega)
theorem get_byte {s : ByteArray} {i : Nat} (h : i < s.size) : ((s.get! i).toNat : Int) = byteAt' s i := by
  simp only [byteAt', ByteArray.get!]
  rw [getElem!_pos _ _ (by simpa using h), Array.getD_eq_getD_getElem?, Array.getElem?_eq_getElem (by simpa using h)]
  rfl
theorem decode_low {s : ByteArray} {i : Nat} (h : (s.get! i).toNat < 128) : Utf8.decode s i = ((s.get! i).toNat, 1) := by
  unfold Utf8.decode
  simp only [Nat.add_zero]
  rw [if_pos h]
theorem decode_pred {s : ByteArray} {i : Nat} (h : i < s.size) : predC (Utf8.decode s i).1 = predC (byteAt' s i) ∧ (predC (byteAt' s i) = true → (Utf8.decode s i).2 = 1) := by
  by_cases hb : (s.get! i).toNat < 128
  · rw [decode_low hb, ← get_byte h]
    exact ⟨rfl, fun _ => rfl⟩
  · have h1 := decode_high (s := s) (i := i) (by omega)
    have h2 := get_byte h
    have n1 : ∀ n : Int, 128 ≤ n → predC n = false := fun n hn => by simp [predC]; omega
    rw [n1 _ (by omega), n1 _ (by omega)]
    exact ⟨rfl, fun h => by cases h⟩
def predCon : Con := ⟨[.d true .s], fun ds => [(nthD ds 0).str.size ≤ 9223372036854775807], [.d (.i .i64)], fun ds => [.i (bif predB (nthD ds 0).str then 0 else 40)], fun _ => []⟩
noncomputable def p1 : Code := sqA pB
noncomputable def p2 : Code := sqA (sqB pB)
noncomputable def p3 : Code := sqA (sqB (sqB pB))
noncomputable def p4 : Code := sqB (sqB (sqB pB))
noncomputable def p31 : Code := sqA p3
noncomputable def pL : Code := lpB (blB (sqB p3))
noncomputable def pN : Code := blB (sqB (sqB pL))
def noAn : Anns := fun _ _ => none
theorem pB_eq : pB = .seq p1 (.seq p2 (.seq p3 p4)) := by kernel_rfl
theorem p3_eq : p3 = .seq (.region 3 #[rgO p31 0, rgO p31 1] false) (.block 0 (.loop (.seq (.region 4 #[rgO (sqA pL) 0, rgO (sqA pL) 1] false) (.seq (.cond (.tmp 26) .skip (.exit 0)) (.block 1 pN))))) := by kernel_rfl
abbrev st00 : Stt := ⟨[.nil], 0⟩
def hN (s : ByteArray) : Bool := !predHead s
theorem ev1 (s : ByteArray) (k : Out → Prop) : k (.norm ((argsA [.v (.string s)] 0).set 2 (some (.v (.int .i64 0)))) st00) = evCode Tryz.prog noS noAn 60 14 50 p1 (argsA [.v (.string s)] 0) st00 k := by kernel_rfl
def k2 (s : ByteArray) : Out → Prop
  | .norm A _ => A.get 0 = some (.v (.string s))
  | .ret A _ => A.get 2 = some (.v (.int .i64 40)) ∧ hN s = true
  | _ => False
abbrev bad1 (s : ByteArray) : Bool := decide ((s.size : Int) < 1) || decide (64 < (s.size : Int))
theorem ev2 (s : ByteArray) : ((bad1 s = false → Idx 0 s.size) ∧ ((bad1 s || decide (byteAt' s 0 < 97)) = false → Idx 0 s.size) ∧ bif (bad1 s || decide (byteAt' s 0 < 97) || decide (122 < byteAt' s 0)) then ((some (AV.v (.int .i64 40)) = some (AV.v (.int .i64 40))) ∧ hN s = true) else (some (AV.v (.string s)) = some (AV.v (.string s)))) = evCode Tryz.prog noS noAn 60 14 50 p2 ((argsA [.v (.string s)] 0).set 2 (some (.v (.int .i64 0)))) st00 (k2 s) := by kernel_rfl
def kN (p : Value) (c : Int) : Out → Prop
  | .norm A _ => A.get 24 = some (.v p) ∧ predC c = true
  | .ret A _ => A.get 2 = some (.v (.int .i64 40)) ∧ predC c = false
  | _ => False
theorem evN (p : Value) (n c : Int) : (bif (decide (c < 97) || decide (122 < c)) && (decide (c < 48) || decide (57 < c)) && !(decide (c = 95)) && !(decide (c = 46)) then ((some (AV.v (.int .i64 40)) = some (AV.v (.int .i64 40))) ∧ predC c = false) else (some (AV.v p) = some (AV.v p)) ∧ predC c = true) = evCode Tryz.prog noS noAn 60 14 50 pN (Ly.set (Ly.set [.nil] 24 (some (.v p))) 25 (some (.v (.tuple #[.bool true, .int .i64 n, .int .i32 c])))) st00 (kN p c) := by kernel_rfl
def k4 : Out → Prop
  | .ret A _ => A.get 2 = some (.v (.int .i64 0))
  | _ => False
theorem ev4 : ((some (AV.v (.int .i64 0)) = some (AV.v (.int .i64 0)))) = evCode Tryz.prog noS noAn 60 14 50 p4 [.nil] st00 k4 := by kernel_rfl
section
open Go.Proofs.YtnhfkdgambncfaaGreatDoor.W
theorem hold0 (Γ : Gl) (w : World) (h : Γ.ok w) : Hold Γ ⟨fun _ => none, fun _ => none, fun _ => none, [], fun _ => none⟩ w st00 w := by
  have hno : ∀ l o, st00.h.get l = some o → False := by
    intro l o hl
    simp only [Ly.get, Ly.go, Tr.get] at hl
    cases hb : Nat.blt l 1000000 <;> rw [hb] at hl <;> cases hl
  exact ⟨Ext.refl _ w, fun b o hb => by (cases hb), fun b o hb => hb, fun _ _ => rfl, fun l o hl => (hno l o hl).elim, fun l l' o o' p p' hl => (hno l o hl).elim, fun b hb => absurd rfl hb, h, by simp⟩
theorem env0 (s : Sg) (E : Env) : EnvOK s [.nil] E := by
  intro t a ht
  simp only [Ly.get, Ly.go, Tr.get] at ht
  cases hb : Nat.blt t 1000000 <;> rw [hb] at ht <;> cases ht
theorem env1 (s : Sg) (E : Env) (t : Nat) (v : Value) (h : E t = v) : EnvOK s (Ly.set [.nil] t (some (.v v))) E := by
  have h1 := EnvOK.put (d := some t) (a := .v v) (v := v) (env0 s E) (Rel.mkv v)
  have h2 : updO E (some t) v = E := by
    funext u
    simp only [updO, upd]
    by_cases hu : u = t
    · subst hu; rw [Nat.beq_refl, h]; rfl
    · cases hb : Nat.beq u t with
      | false => rfl
      | true => exact absurd (Nat.eq_of_beq_eq_true hb) hu
  rw [h2] at h1
  exact h1
theorem env2 (s : Sg) (E : Env) (t u : Nat) (v x : Value) (h : E t = v) (k : E u = x) : EnvOK s (Ly.set (Ly.set [.nil] t (some (.v v))) u (some (.v x))) E := by
  have h1 := EnvOK.put (d := some u) (a := .v x) (v := x) (env1 s E t v h) (Rel.mkv x)
  have h2 : updO E (some u) x = E := by
    funext y
    simp only [updO, upd]
    by_cases hy : y = u
    · subst hy; rw [Nat.beq_refl, k]; rfl
    · cases hb : Nat.beq y u with
      | false => rfl
      | true => exact absurd (Nat.eq_of_beq_eq_true hb) hy
  rw [h2] at h1
  exact h1
theorem string9 : Tryz.prog.underlying 9 = some .string := by kernel_rfl
def putO (w : World) (b : Nat) (o : Obj) : World := { w with heap := w.heap.setIfInBounds b o }
theorem putO_at {w : World} {b : Nat} (o : Obj) (h : b < w.heap.size) : (putO w b o).heap[b]? = some o := by simp [putO, h]
theorem putO_ext (w : World) (b : Nat) (o : Obj) : Ext [b] w (putO w b o) :=
  ⟨rfl, rfl, rfl, by simp [putO], fun k _ hk => by simp only [List.mem_singleton] at hk; simp [putO, Array.getElem?_setIfInBounds, Ne.symm hk]⟩
theorem run_next {w : World} {b : Nat} {s : ByteArray} {pos : Nat} {ty : TypeId} (hb : w.heap[b]? = some (.stringIter s pos)) (h : pos < s.size) : (Instr.next (.pointer (some ⟨b, 0, none⟩)) true ty).run Tryz.prog w = .ok (.tuple #[.bool true, .int .i64 pos, .int .i32 ((Utf8.decode s pos).1 : Int)]) (putO w b (.stringIter s (pos + (Utf8.decode s pos).2))) := by
  simp [Instr.next, getObj, setObj, Sem.run, hb, h, goInt, putO]
theorem run_nextE {w : World} {b : Nat} {s : ByteArray} {pos : Nat} {ty : TypeId} (hb : w.heap[b]? = some (.stringIter s pos)) (h : ¬ pos < s.size) : (Instr.next (.pointer (some ⟨b, 0, none⟩)) true ty).run Tryz.prog w = .ok (.tuple #[.bool false]) w := by
  simp [Instr.next, getObj, Sem.run, hb, h]
theorem ext_iter (w : World) (s : ByteArray) (pos : Nat) : Ext [] w (w.iter s pos) := Ext.alloc w _
theorem fnc_ret {E : Env} {w : World} {R : Value → World → Prop} {v : Value} (h : E 2 = v) (hR : R v w) : resOf Tryz.f14 Tryz.prog E w R := resOf.one (t := 2) (by kernel_rfl) h hR
set_option maxRecDepth 10000 in
theorem predC_fnc (s : ByteArray) (w : World) (hs : s.size ≤ 9223372036854775807) (hg : gl.ok w) : Fnc Tryz.prog 14 #[.string s] w fun v w' => v = .int .i64 (bif predB s then 0 else 40) ∧ Ext [] w w' := by
  refine Fnc.of_WP (fn := Tryz.f14) (c := pB) (n := 50) Tryz.func14 (by kernel_rfl) (by kernel_rfl) (by show 1 ≤ 50; decide) fun E hE => ?_
  rw [pB_eq]
  have hE0 : EnvOK ⟨fun _ => none, fun _ => none, fun _ => none, [], fun _ => none⟩ (argsA [.v (.string s)] 0) E := by
    have : (argsA [.v (.string s)] 0) = Ly.set [.nil] 0 (some (.v (.string s))) := rfl
    rw [this]; exact env1 _ E 0 _ (hE 0 (by show (0 : Nat) < 1; decide))
  have r1 := code_ok (Γ := gl) (ro := none) (DD := []) (an := noAn) mo (noS_ok _) 60 14 50 p1 (argsA [.v (.string s)] 0) st00 (fun o => match o with | .norm A st => A = (argsA [.v (.string s)] 0).set 2 (some (.v (.int .i64 0))) ∧ st = st00 | _ => False) (by rw [← ev1 s]; exact ⟨rfl, rfl⟩) (List.cons_ne_nil _ _) (by simp) _ _ E w (hold0 gl w hg) hE0
  refine WP.seq (WP.mono r1 ?_ (fun i E w h => by obtain ⟨_, _, _, h, _⟩ := h; exact h.elim) (fun E w h => by obtain ⟨_, _, _, h, _⟩ := h; exact h.elim))
  rintro E1 w1 ⟨_, _, s1, ⟨rfl, rfl⟩, hle1, hH1, hE1⟩
  have hev2 : evCode Tryz.prog noS noAn 60 14 50 p2 ((argsA [.v (.string s)] 0).set 2 (some (.v (.int .i64 0)))) st00 (k2 s) := by
    rw [← ev2 s]
    refine ⟨fun h => ⟨by omega, by simp [bad1] at h; omega⟩, fun h => ⟨by omega, by simp [bad1] at h; omega⟩, cond_of (fun c => ⟨rfl, ?_⟩) (fun c => rfl)⟩
    simp only [hN, predHead, Bool.not_not]; exact c
  have r2 := code_ok (Γ := gl) (ro := none) (DD := []) (an := noAn) mo (noS_ok _) 60 14 50 p2 ((argsA [.v (.string s)] 0).set 2 (some (.v (.int .i64 0)))) st00 (fun o => k2 s o ∧ (match o with | .norm _ _ => hN s = false | _ => True)) (by
    have : evCode Tryz.prog noS noAn 60 14 50 p2 ((argsA [.v (.string s)] 0).set 2 (some (.v (.int .i64 0)))) st00 (fun o => k2 s o ∧ (match o with | .norm _ _ => hN s = false | _ => True)) = ((bad1 s = false → Idx 0 s.size) ∧ ((bad1 s || decide (byteAt' s 0 < 97)) = false → Idx 0 s.size) ∧ bif (bad1 s || decide (byteAt' s 0 < 97) || decide (122 < byteAt' s 0)) then (((some (AV.v (.int .i64 40)) = some (AV.v (.int .i64 40))) ∧ hN s = true) ∧ True) else ((some (AV.v (.string s)) = some (AV.v (.string s))) ∧ hN s = false)) := by kernel_rfl
    rw [this]
    refine ⟨fun h => ⟨by omega, by simp [bad1] at h; omega⟩, fun h => ⟨by omega, by simp [bad1] at h; omega⟩, cond_of (fun c => ⟨⟨rfl, ?_⟩, trivial⟩) (fun c => ⟨rfl, ?_⟩)⟩
    · simp only [hN, predHead, Bool.not_not]; exact c
    · simp only [hN, predHead, Bool.not_not]; exact c) (List.cons_ne_nil _ _) (by simp) _ _ E1 w1 hH1 hE1
  refine WP.seq (WP.mono r2 ?_ (fun i E w h => by obtain ⟨_, _, _, ⟨h, _⟩, _⟩ := h; exact h.elim) ?_)
  · rintro E2 w2 ⟨A2, st2, s2, ⟨hA2, hN2⟩, hle2, hH2, hE2⟩
    have hx2 : Ext [] w w2 := by
      have h1 := hH2.ext
      have : s2.X = [] := hle2.X.trans hle1.X
      rw [this] at h1; exact h1
    have he0 : E2 0 = .string s := (hE2 0 _ hA2).v_of
    rw [p3_eq]
    refine WP.seq (WP.seq (WP.region ?_))
    -- the iterator is made
    refine WL.v (u := .string s) (Sure.none rfl) rfl (V.move (x := .tmp 0) (by kernel_rfl) he0) ?_
    refine WL.x (u := .pointer (some ⟨w2.heap.size, 0, none⟩)) (w' := w2.iter s 0) (Sure.none rfl) rfl (.inl ?_) ?_
    · have ho : (rgO p31 1).op = .range 9 (.tmp 23) := by kernel_rfl
      simp only [execOp, ho, ev]
      have : updO E2 (rgO p31 0).dst (.string s) 23 = .string s := by
        rw [show (rgO p31 0).dst = some 23 from by kernel_rfl]; rfl
      rw [this]
      exact run_v (run_range_string w2 9 s string9)
    refine WL.nil ?_
    have h24 : ∃ E3, E3 = updO (updO E2 (rgO p31 0).dst (.string s)) (rgO p31 1).dst (.pointer (some ⟨w2.heap.size, 0, none⟩)) ∧ E3 24 = .pointer (some ⟨w2.heap.size, 0, none⟩) := ⟨_, rfl, by rw [show (rgO p31 1).dst = some 24 from by kernel_rfl]; rfl⟩
    obtain ⟨E3, e3, h24⟩ := h24
    rw [← e3]
    refine WP.block ?_
    refine WP.loop (σ := Nat) (fun pos E w' => E 24 = .pointer (some ⟨w2.heap.size, 0, none⟩) ∧ w'.heap[w2.heap.size]? = some (.stringIter s pos) ∧ Ext [] w2 w' ∧ pos ≤ s.size ∧ ∀ j, j < pos → predC (byteAt' s j) = true) (fun pos => s.size - pos) 0 ⟨h24, World.iter_heap w2 s 0, ext_iter w2 s 0, Nat.zero_le _, by omega⟩ ?_
    rintro pos E4 w4 ⟨f1, fh, fx, f2, f3⟩
    have ho4 : (rgO (sqA pL) 0).op = .next (.tmp 24) true := by kernel_rfl
    have hd4 : (rgO (sqA pL) 0).dst = some 25 := by kernel_rfl
    have ho5 : (rgO (sqA pL) 1).op = .extract (.tmp 25) 0 := by kernel_rfl
    have hd5 : (rgO (sqA pL) 1).dst = some 26 := by kernel_rfl
    refine WP.seq (WP.region ?_)
    by_cases hp : pos < s.size
    · have hlt : w2.heap.size < w4.heap.size := (Array.getElem?_eq_some_iff.1 fh).1
      have hx5 : Ext [] w2 (putO w4 w2.heap.size (.stringIter s (pos + (Utf8.decode s pos).2))) := Ext.new fx (putO_ext _ _ _) (by simp)
      have hat := putO_at (w := w4) (.stringIter s (pos + (Utf8.decode s pos).2)) hlt
      refine WL.x (u := .tuple #[.bool true, .int .i64 pos, .int .i32 ((Utf8.decode s pos).1 : Int)]) (w' := putO w4 w2.heap.size (.stringIter s (pos + (Utf8.decode s pos).2))) (Sure.none rfl) rfl (.inl ?_) ?_
      · simp only [execOp, ho4, ev, f1]
        exact run_v (run_next fh hp)
      refine WL.v (u := .bool true) (Sure.none rfl) rfl (V.extract (vs := #[.bool true, .int .i64 pos, .int .i32 ((Utf8.decode s pos).1 : Int)]) ho5 (by rw [hd4]; rfl) rfl) (WL.nil ?_)
      rw [hd4, hd5]
      refine WP.seq (WP.cond_true (c := .tmp 26) rfl (WP.skip ?_))
      refine WP.block ?_
      have hev := evN (.pointer (some ⟨w2.heap.size, 0, none⟩)) (pos : Int) ((Utf8.decode s pos).1 : Int)
      obtain ⟨q1, q2⟩ := decode_pred hp
      have hevN : evCode Tryz.prog noS noAn 60 14 50 pN (Ly.set (Ly.set [.nil] 24 (some (.v (.pointer (some ⟨w2.heap.size, 0, none⟩))))) 25 (some (.v (.tuple #[.bool true, .int .i64 pos, .int .i32 ((Utf8.decode s pos).1 : Int)])))) st00 (kN (.pointer (some ⟨w2.heap.size, 0, none⟩)) ((Utf8.decode s pos).1 : Int)) := by
        rw [← hev]
        refine cond_of (fun c => ⟨rfl, ?_⟩) (fun c => ⟨rfl, ?_⟩)
        · simp only [predC]; rw [c]; rfl
        · simp only [predC]; rw [c]; rfl
      have hg5 := hold0 gl _ ((hold0 gl w hg).grow (hx2.trans hx5)).gl
      have r5 := code_ok (Γ := gl) (ro := none) (DD := []) (an := noAn) mo (noS_ok _) 60 14 50 pN _ st00 _ hevN (List.cons_ne_nil _ _) (by simp) _ _ _ _ hg5 (env2 ⟨fun _ => none, fun _ => none, fun _ => none, [], fun _ => none⟩ (updO (updO E4 (some 25) (.tuple #[.bool true, .int .i64 pos, .int .i32 ((Utf8.decode s pos).1 : Int)])) (some 26) (.bool true)) 24 25 _ _ f1 rfl)
      have hX : ∀ {s' : Sg} {st : Stt} {w' : World}, (⟨fun _ => none, fun _ => none, fun _ => none, [], fun _ => none⟩ : Sg).le s' → Hold gl s' (putO w4 w2.heap.size (.stringIter s (pos + (Utf8.decode s pos).2))) st w' → Ext [] (putO w4 w2.heap.size (.stringIter s (pos + (Utf8.decode s pos).2))) w' := by
        intro s' st w' h1 h2
        have h3 := h2.ext
        rw [h1.X] at h3; exact h3
      refine WP.mono r5 ?_ (fun i E w h => by obtain ⟨_, _, _, h, _⟩ := h; exact h.elim) ?_
      · rintro E6 w6 ⟨A6, st6, s6, ⟨g1, g2⟩, g3, g4, g5⟩
        rw [q1] at g2
        have hw := q2 g2
        have hx6 := hX g3 g4
        refine ⟨pos + 1, ⟨(g5 24 _ g1).v_of, ?_, hx5.trans hx6, by omega, fun j hj => ?_⟩, by show s.size - (pos + 1) < s.size - pos; omega⟩
        · rw [hw] at hx6 hat
          exact Ext.keepB hx6 hat (by simp)
        · by_cases hj' : j = pos
          · subst hj'; exact g2
          · exact f3 j (by omega)
      · rintro E6 w6 ⟨A6, st6, s6, ⟨g1, g2⟩, g3, g4, g5⟩
        rw [q1] at g2
        have hx6 := hX g3 g4
        have : predB s = false := by
          rw [predB, Bool.and_eq_false_iff]
          right
          rw [List.all_eq_false]
          exact ⟨pos, by simpa using hp, by rw [g2]; exact Bool.false_ne_true⟩
        refine fnc_ret (R := fun v w' => v = .int .i64 (bif predB s then 0 else 40) ∧ Ext [] w w') (g5 2 _ g1).v_of ⟨?_, hx2.trans (hx5.trans hx6)⟩
        rw [this]; rfl
    · have hpe : pos = s.size := by omega
      refine WL.v (u := .tuple #[.bool false]) (Sure.none rfl) rfl ?_ ?_
      · simp only [OpV, execOp, ho4, ev, f1]
        exact run_v (run_nextE fh hp)
      refine WL.v (u := .bool false) (Sure.none rfl) rfl (V.extract (vs := #[.bool false]) ho5 (by rw [hd4]; rfl) rfl) (WL.nil ?_)
      rw [hd4, hd5]
      refine WP.seq (WP.cond_false (c := .tmp 26) rfl (WP.exit ?_))
      have hall : predB s = true := by
        rw [predB, Bool.and_eq_true]
        refine ⟨by simpa [hN] using hN2, ?_⟩
        rw [List.all_eq_true]
        intro j hj
        exact f3 j (by rw [hpe]; simpa using hj)
      have hev4 := ev4
      have r7 := code_ok (Γ := gl) (ro := none) (DD := []) (an := noAn) mo (noS_ok _) 60 14 50 p4 [.nil] st00 k4 (by rw [← ev4]) (List.cons_ne_nil _ _) (by simp) _ _ (updO (updO E4 (some 25) (.tuple #[.bool false])) (some 26) (.bool false)) w4 ((hold0 gl w hg).grow (hx2.trans fx)) (env0 _ _)
      refine WP.mono r7 (fun E w h => by obtain ⟨_, _, _, h, _⟩ := h; exact h.elim) (fun i E w h => by obtain ⟨_, _, _, h, _⟩ := h; exact h.elim) ?_
      rintro E6 w6 ⟨A6, st6, s6, g1, g3, g4, g5⟩
      have h3 := g4.ext
      rw [g3.X] at h3
      refine fnc_ret (R := fun v w' => v = .int .i64 (bif predB s then 0 else 40) ∧ Ext [] w w') (g5 2 _ g1).v_of ⟨?_, h3⟩
      rw [hall]; rfl
  · rintro E2 w2 ⟨A2, st2, s2, ⟨⟨hA2, hN2⟩, _⟩, hle2, hH2, hE2⟩
    have hx2 : Ext [] w w2 := by
      have h1 := hH2.ext
      have : s2.X = [] := hle2.X.trans hle1.X
      rw [this] at h1; exact h1
    have : predB s = false := by rw [predB, show predHead s = false from by simpa [hN] using hN2]; rfl
    refine fnc_ret (R := fun v w' => v = .int .i64 (bif predB s then 0 else 40) ∧ Ext [] w w') (hE2 2 _ hA2).v_of ⟨?_, hx2⟩
    rw [this]; rfl
theorem predCon_ok : ConOK Tryz.prog gl 14 predCon := by
  intro F G w vs ds bs hg _ hF hGF hnd hbF hargs hlen hpre
  simp only [predCon, ArgsRd] at hargs
  obtain ⟨v, vs', rfl, ⟨cs, h1, h2⟩, rfl, rfl⟩ := hargs
  simp only [Rd] at h1
  subst h1
  simp only [Val, DT.isT, cond_false] at h2
  cases h2
  refine Fnc.mono (predC_fnc _ w (hpre _ (by simp [predCon])) hg) ?_
  rintro v w' ⟨rfl, hx⟩
  exact ⟨G, [], [_], hx, Sub.refl _, fun b o hb => Ext.keepB hx (hF b o (hGF b o hb)) (by simp), fun b h1 h2 => absurd h1 h2, List.nodup_nil, by simp, ⟨_, [], [_], [], [], rfl, rfl, rfl, ⟨rfl, rfl⟩, ⟨rfl, rfl⟩⟩, rfl, trivial⟩
end
end Go.Proofs.YtnhfkdgambncfaaGreatDoor.XT
