/- The symbolic evaluator: what stands below stays; what it asks for grows with what stands behind. Program-agnostic. -/
import Derived.Test.YtbbjonjhaoeidaaDoorOS15
set_option linter.unusedVariables false
set_option linter.unusedSimpArgs false
namespace Go.Proofs.YtbbjonjhaoeidaaDoor.Sv
open Go.RowKit Go.Proofs.YtbbjonjhaoeidaaDoor.W
variable {Γ : Gl}

/-! ### What stands below the uppermost layer stays -/
def Suf {α : Type} (H L : Ly α) : Prop := ∃ T tl Ls T', H = T :: tl ∧ L = Ls ++ T' :: tl
theorem Suf.refl {α : Type} {H : Ly α} (h : H ≠ []) : Suf H H := by
  cases H with
  | nil => exact absurd rfl h
  | cons T tl => exact ⟨T, tl, [], T, rfl, rfl⟩
theorem Suf.ne {α : Type} {H L : Ly α} (h : Suf H L) : L ≠ [] := by
  obtain ⟨T, tl, Ls, T', rfl, rfl⟩ := h
  simp
theorem Suf.set {α : Type} {H L : Ly α} (h : Suf H L) (k : Nat) (x : Option α) : Suf H (L.set k x) := by
  obtain ⟨T, tl, Ls, T', rfl, rfl⟩ := h
  unfold Ly.set
  cases Nat.blt k 1000000 with
  | false => exact ⟨T, tl, Ls, T', rfl, rfl⟩
  | true =>
    simp only [cond_true]
    cases Ls with
    | nil => exact ⟨T, tl, [], _, rfl, rfl⟩
    | cons a r => exact ⟨T, tl, _ :: r, T', rfl, rfl⟩
theorem Suf.trans {α : Type} {A B C : Ly α} (h : Suf A B) (k : Suf B C) : Suf A C := by
  obtain ⟨T, tl, Ls, T', rfl, rfl⟩ := h
  obtain ⟨U, ul, Ms, U', e, rfl⟩ := k
  cases Ls with
  | nil => simp only [List.nil_append, List.cons.injEq] at e; obtain ⟨rfl, rfl⟩ := e; exact ⟨T, _, Ms, U', rfl, rfl⟩
  | cons a r =>
    simp only [List.cons_append, List.cons.injEq] at e
    obtain ⟨rfl, rfl⟩ := e
    exact ⟨T, tl, Ms ++ U' :: r, T', rfl, by simp⟩
theorem Suf.head {α : Type} {A : Ly α} (h : A ≠ []) (a b : Tr (Option α)) : Suf A (a :: b :: A) := by
  cases A with
  | nil => exact absurd rfl h
  | cons T tl => exact ⟨T, tl, [a, b], T, rfl, rfl⟩
def SufS (st st' : Stt) : Prop := Suf st.h st'.h ∧ st.nx ≤ st'.nx
theorem SufS.refl {st : Stt} (h : st.h ≠ []) : SufS st st := ⟨Suf.refl h, Nat.le_refl _⟩
theorem SufS.trans {a b c : Stt} (h : SufS a b) (k : SufS b c) : SufS a c := ⟨h.1.trans k.1, Nat.le_trans h.2 k.2⟩
theorem SufS.new {a b : Stt} (h : SufS a b) (x : AX) : SufS a (newX b x) := ⟨h.1.set _ _, Nat.le_trans h.2 (Nat.le_succ _)⟩
theorem SufS.setx {a b : Stt} (h : SufS a b) (l : Nat) (x : AX) : SufS a (setX b l x) := ⟨h.1.set _ _, h.2⟩
theorem SufS.del {a b : Stt} (h : SufS a b) (l : Nat) : SufS a (delX b l) := ⟨h.1.set _ _, h.2⟩
theorem suf_put {H A : AE} (h : Suf H A) (d : Option Nat) (a : AV) : Suf H (putA A d a) := by
  cases d with
  | none => exact h
  | some d => exact h.set _ _
theorem suf_kill {H : AE} : ∀ (ds : List Nat) {A : AE}, Suf H A → Suf H (killA A ds)
  | [], _, h => h
  | d :: r, _, h => suf_kill r (h.set d none)
theorem suf_freeze {st0 st st' : Stt} {a a' : AV} (h : freeze st a = some (a', st')) (hs : SufS st0 st) : SufS st0 st' := by
  cases a <;> simp only [freeze] at h <;> first
    | (simp only [Option.some.injEq, Prod.mk.injEq] at h; obtain ⟨_, rfl⟩ := h; exact hs)
    | (split at h
       · cases h; exact hs.del _
       · cases h)
theorem suf_freezeL : ∀ {cs cs' : List AV} {st0 st st' : Stt}, freezeL st cs = some (cs', st') → SufS st0 st → SufS st0 st'
  | [], _, _, _, _, h, hs => by simp only [freezeL, Option.some.injEq, Prod.mk.injEq] at h; obtain ⟨_, rfl⟩ := h; exact hs
  | a :: r, _, _, _, _, h, hs => by
    simp only [freezeL] at h
    split at h
    · rename_i h1
      split at h
      · rename_i h2; cases h; exact suf_freezeL h2 (suf_freeze h1 hs)
      · cases h
    · cases h
theorem suf_src {st0 st st' : Stt} {dt : DT} {y : AV} {ys : List D} (h : srcD st dt y = some (ys, st')) (hs : SufS st0 st) : SufS st0 st' := by
  unfold srcD at h
  split at h
  · cases h; exact hs
  · cases h; exact hs
  · split at h
    case h_2 => cases h
    revert h
    cases Nat.beq _ _ with
    | false => intro h; cases h
    | true =>
      intro h
      simp only [cond_true] at h
      split at h
      case h_2 => cases h
      rename_i hf
      split at h
      case h_2 => cases h
      cases h
      exact suf_freezeL hf hs
  · revert h
    cases DT.beq _ _ with
    | false => intro h; cases h
    | true => intro h; cases h; exact hs
  · split at h
    case h_2 => cases h
    revert h
    cases DT.beq _ _ with
    | false => intro h; cases h
    | true => intro h; cases h; exact hs
  · split at h
    case h_2 => cases h
    revert h
    cases (DT.beq _ _ && Nat.beq _ _) with
    | false => intro h; cases h
    | true => intro h; cases h; exact hs
  · cases h
theorem suf_row {P : Program} {st : Stt} {e len sz : Nat} {cs : List AV} (h0 : SufS st st) : SufS st (newRowA P st e len sz cs).2 := by
  unfold newRowA
  split
  · cases Nat.beq _ _ with
    | false => exact h0.new _
    | true =>
      simp only [cond_true]
      split
      · exact h0.new _
      · exact h0.new _
  · exact h0.new _
theorem suf_wr {P : Program} {st st' : Stt} {A : AE} {op : Op} {ps : Ps} {a : AV} (h : evWrS P st A op = some (ps, a, st')) (hn : st.h ≠ []) : SufS st st' := by
  have h0 := SufS.refl hn
  unfold evWrS at h
  split at h
  · split at h
    case h_2 => cases h
    split at h
    case h_2 => cases h
    revert h
    cases (Nat.ble _ 1024 && Nat.beq _ _ && Nat.ble 1 _) with
    | false => intro h; cases h
    | true =>
      intro h
      simp only [cond_true] at h
      split at h
      case h_2 => cases h
      cases h; exact suf_row h0
  · split at h
    case h_2 => cases h
    cases h
    unfold newArrA
    split
    · exact h0.new _
    · exact h0.new _
  · split at h
    case h_2 => cases h
    split at h
    case h_2 => cases h
    revert h
    cases (Nat.ble 1 _ && Nat.beq _ _ && Nat.beq _ _ && List.all _ _) with
    | false => intro h; cases h
    | true =>
      intro h
      simp only [cond_true] at h
      split at h
      case h_2 => cases h
      cases h; exact h0.new _
  · split at h
    case h_2 => cases h
    cases h; exact h0.new _
  · split at h
    case h_2 => cases h
    split at h
    case h_2 => cases h
    rename_i hst
    cases h
    unfold evStore at hst
    split at hst
    · split at hst
      case h_2 => cases hst
      revert hst
      cases (Nat.beq _ _ && Nat.ble _ _ && List.all _ _) with
      | false => intro h; cases h
      | true => intro h; cases h; exact h0.setx _ _
    · split at hst
      case h_2 => cases hst
      rename_i hf
      split at hst
      case h_2 => cases hst
      revert hst
      cases (Nat.beq _ _ && Nat.beq _ _ && pathIs _ _ _ _) with
      | false => intro h; cases h
      | true =>
        intro h
        simp only [cond_true] at h
        split at h
        case h_2 => cases h
        cases h; exact (suf_freezeL hf h0).setx _ _
    · cases hst
  · split at h
    case h_2 => cases h
    split at h
    case h_2 => cases h
    revert h
    cases Nat.beq _ _ with
    | false => intro h; cases h
    | true =>
      intro h
      simp only [cond_true] at h
      unfold evAppend at h
      split at h
      case h_2 => cases h
      split at h
      case h_2 => cases h
      revert h
      cases (Nat.ble 1 _ && Nat.beq _ _ && Nat.beq _ _ && List.all _ _) with
      | false => intro h; cases h
      | true =>
        intro h
        simp only [cond_true] at h
        split at h
        case h_2 => cases h
        rename_i hs
        have h1 := suf_src hs h0
        split at h
        · cases h; exact h1.new _
        · cases h; exact h1.new _
        · split at h
          case h_2 => cases h
          revert h
          cases (Nat.beq _ _ && DT.beq _ _) with
          | false => intro h; cases h
          | true => intro h; cases h; exact (h1.del _).new _
        · split at h
          case h_2 => cases h
          revert h
          cases (Nat.beq _ _ && DT.beq _ _) with
          | false => intro h; cases h
          | true => intro h; cases h; exact (h1.del _).new _
        · cases h
  · split at h
    case h_2 => cases h
    split at h
    case h_2 => cases h
    cases h; exact h0
  · cases h
theorem suf_boxes : ∀ (ks : List AK) (ls : List Nat) (es : List D) {st0 st : Stt}, SufS st0 st → SufS st0 (setBoxes st ks ls es)
  | [], _, _, _, _, h => by simpa [setBoxes] using h
  | .d _ _ :: r, ls, es, _, _, h => by simp only [setBoxes]; exact suf_boxes r ls es h
  | .box _ _ :: r, [], _, _, _, h => by simpa [setBoxes] using h
  | .box _ _ :: r, l :: ls, es, _, _, h => by simp only [setBoxes]; exact suf_boxes r ls _ (h.setx _ _)
mutual
theorem suf_res : ∀ (k : RK) (d : D) {st0 st : Stt}, SufS st0 st → SufS st0 (mkRes st k d).2
  | .d _, _, _, _, h => by simp only [mkRes]; exact h
  | .own _ _, _, _, _, h => by simp only [mkRes]; exact h.new _
  | .agg ks, d, _, _, h => by simp only [mkRes]; exact suf_ress ks d.tup h
theorem suf_ress : ∀ (ks : List RK) (ds : List D) {st0 st : Stt}, SufS st0 st → SufS st0 (mkRess st ks ds).2
  | [], _, _, _, h => by simp only [mkRess]; exact h
  | k :: ks, ds, _, _, h => by simp only [mkRess]; exact suf_ress ks _ (suf_res k _ h)
end
theorem suf_outs : ∀ (ks : List RK) (ds : List D) {st0 st : Stt}, SufS st0 st → SufS st0 (mkOuts st ks ds).2
  | [], _, _, _, h => by simp only [mkOuts]; exact h
  | k :: ks, ds, _, _, h => by simp only [mkOuts]; exact suf_outs ks _ (suf_res k _ h)
theorem suf_op {P : Program} {S : Sums} {st st' : Stt} {A : AE} {o : Oper} {ps : Ps} {a : AV} (h : evOp P S st A o = some (.wr ps a st')) (hn : st.h ≠ []) : SufS st st' := by
  unfold evOp at h
  split at h
  · cases h
  · split at h
    · rename_i hw; cases h; exact suf_wr hw hn
    · split at h
      · split at h
        case h_2 => cases h
        split at h
        case h_2 => cases h
        rename_i q hcon
        cases q with
        | true => cases h
        | false =>
          cases h
          unfold conStep at hcon
          split at hcon
          case h_2 => cases hcon
          rename_i ds ls hm
          revert hcon
          cases noDup ls with
          | false => intro h; cases h
          | true =>
            intro h
            simp only [cond_true, Option.some.injEq, Prod.mk.injEq] at h
            obtain ⟨_, _, rfl, _⟩ := h
            exact suf_outs _ _ (suf_boxes _ _ _ (SufS.refl hn))
      · split at h <;> cases h
theorem suf_blk {P : Program} {S : Sums} {N : Nat} {ops : Array Oper} {st : Stt} : ∀ (n : Nat) (cx : Cx) (dl : List Nat) (l : List Oper) {H A A' : AE} {ps : Ps}, evBlk P S N ops st n cx dl l A = some (ps, A') → Suf H A → Suf H A'
  | 0, _, _, _, _, _, _, _, h, _ => by simp [evBlk] at h
  | n + 1, cx, dl, [], _, _, _, _, h, hs => by simp only [evBlk, Option.some.injEq, Prod.mk.injEq] at h; obtain ⟨_, rfl⟩ := h; exact hs
  | n + 1, cx, dl, o :: r, _, _, _, _, h, hs => by
    simp only [evBlk] at h
    cases hc : cxIs o.guard cx with
    | true =>
      rw [hc] at h
      simp only [cond_true] at h
      revert h
      cases dstB N o.dst with
      | false => intro h; cases h
      | true =>
        intro h
        simp only [cond_true] at h
        split at h
        case h_2 => cases h
        split at h
        case h_2 => cases h
        rename_i hr
        cases h
        exact suf_blk n cx _ r hr (suf_put hs _ _)
    | false =>
      rw [hc] at h
      simp only [cond_false] at h
      split at h
      · cases h
      · split at h
        case h_2 => cases h
        revert h
        cases ((cxTop cx || _) && !_ && dstB N _) with
        | false => intro h; cases h
        | true =>
          intro h
          simp only [cond_true] at h
          split at h
          case h_2 => cases h
          split at h
          case h_2 => cases h
          split at h
          case h_2 => cases h
          rename_i hr
          cases h
          exact suf_blk n cx _ _ hr (suf_put (suf_kill _ hs) _ _)
theorem suf_pass1 {P : Program} {S : Sums} {ops : Array Oper} {A A0 : AE} : ∀ (r : List Oper) (i : Nat) (tr : Tr Inf) (st0 st : Stt) (m : Nat) (xs : List Inf) (ss : List Stt), pass1 P S ops A A0 r i tr st m = some (xs, ss) → SufS st0 st → ∀ t ∈ ss, SufS st0 t
  | [], i, tr, st0, st, m, xs, ss, h, hs => by
    simp only [pass1, Option.some.injEq, Prod.mk.injEq] at h
    obtain ⟨_, rfl⟩ := h
    intro t ht
    simp only [List.mem_singleton] at ht
    subst ht; exact hs
  | o :: r, i, tr, st0, st, m, xs, ss, h, hs => by
    simp only [pass1] at h
    split at h
    · cases h
    · split at h
      · rename_i hr; cases h; exact suf_pass1 r _ _ st0 st _ _ _ hr hs
      · cases h
    · rename_i hop
      split at h
      · rename_i hr
        cases h
        intro t ht
        rcases List.mem_cons.1 ht with rfl | ht
        · exact hs
        · exact suf_pass1 r _ _ st0 _ _ _ _ hr (hs.trans (suf_op hop hs.1.ne)) t ht
      · cases h
theorem suf_putAll {H : AE} : ∀ (l : List Oper) (G : List Inf) {A : AE}, Suf H A → Suf H (putAll A l G)
  | [], _, _, h => by unfold putAll; exact h
  | _ :: _, [], _, h => by unfold putAll; exact h
  | o :: r, x :: G, _, h => by unfold putAll; exact suf_putAll r G (suf_put h _ _)
theorem suf_drawn {P : Program} {S : Sums} {N : Nat} {ops : Array Oper} {A A' : AE} {st st' : Stt} {ps : Ps} (h : evDrawn P S N ops A st = some (ps, A', st')) (hA : A ≠ []) (hn : st.h ≠ []) : Suf A A' ∧ SufS st st' := by
  unfold evDrawn at h
  simp only at h
  revert h
  cases (Nat.ble _ 4000 && List.all _ _ && noDup _ && backOk _ 0 && List.all _ _) with
  | false => intro h; cases h
  | true =>
    intro h
    simp only [cond_true] at h
    split at h
    · cases h
    · rename_i hp1
      split at h
      case h_2 => cases h
      rename_i hlast
      cases h
      exact ⟨suf_putAll _ _ (suf_kill _ (Suf.refl hA)), suf_pass1 _ _ _ st st _ _ _ hp1 (SufS.refl hn) _ (List.mem_of_getLast? hlast)⟩

/-! ### What is asked for grows with what stands behind -/
theorem obs_imp : ∀ {ps : Ps} {q q' : Prop}, obs ps q → (q → q') → obs ps q'
  | [], _, _, h, k => k h
  | _ :: r, _, _, h, k => ⟨h.1, obs_imp (ps := r) h.2 k⟩
def CallImp (cf : CallF) : Prop := ∀ f l st (k k' : KV), cf f l st k → st.h ≠ [] → (∀ a st', SufS st st' → k a st' → k' a st') → cf f l st k'
theorem list_imp {P : Program} {S : Sums} {cf : CallF} (hcf : CallImp cf) {N : Nat} {ops : Array Oper} : ∀ (l : List Oper) (n : Nat) (A : AE) (st : Stt) (k k' : AE → Stt → Prop), evList P S cf N ops l n A st k → A ≠ [] → st.h ≠ [] → (∀ A' st', Suf A A' → SufS st st' → k A' st' → k' A' st') → evList P S cf N ops l n A st k'
  | [], n, A, st, k, k', h, hA, hn, hk => by simp only [evList] at h ⊢; exact hk A st (Suf.refl hA) (SufS.refl hn) h
  | o :: r, n + 1, A, st, k, k', h, hA, hn, hk => by rw [evList] at h ⊢; exact list_imp hcf r n A st k k' h hA hn hk
  | o :: r, 0, A, st, k, k', h, hA, hn, hk => by
    rw [evList] at h ⊢
    cases hd : dstB N o.dst with
    | false => rw [hd] at h; exact h.elim
    | true =>
    rw [hd] at h
    simp only [cond_true] at h ⊢
    cases hg : o.guard with
    | none =>
      rw [hg] at h
      simp only at h ⊢
      cases hop : evOp P S st A o with
      | some rs =>
        rw [hop] at h
        cases rs with
        | rd ps a =>
          simp only at h ⊢
          have hs := suf_put (Suf.refl hA) o.dst a
          exact obs_imp h fun h => list_imp hcf r 0 _ st k k' h hs.ne hn fun A' st' h1 => hk A' st' (hs.trans h1)
        | wr ps a st1 =>
          simp only at h ⊢
          have hs := suf_put (Suf.refl hA) o.dst a
          have hs1 := suf_op hop hn
          exact obs_imp h fun h => list_imp hcf r 0 _ st1 k k' h hs.ne hs1.1.ne fun A' st' h1 h2 => hk A' st' (hs.trans h1) (hs1.trans h2)
      | none =>
        rw [hop] at h
        simp only at h ⊢
        cases hc : evCallS P A o.op with
        | none => rw [hc] at h; exact h.elim
        | some fl =>
          rw [hc] at h
          obtain ⟨f, l⟩ := fl
          simp only at h ⊢
          refine hcf f l st _ _ h hn fun a st1 hs1 h => ?_
          have hs := suf_put (Suf.refl hA) o.dst a
          exact list_imp hcf r 0 _ st1 k k' h hs.ne hs1.1.ne fun A' st' h1 h2 => hk A' st' (hs.trans h1) (hs1.trans h2)
    | some g =>
      rw [hg] at h
      simp only at h ⊢
      split at h
      · exact h.elim
      · rename_i d b hgs
        try simp only [hgs]
        split at h
        case h_2 => exact h.elim
        rename_i p r' ps A1 hbe hB
        try simp only [hbe, hB]
        cases hck : (!(dsts (ahead none (o :: r))).contains d && dstB N p.dst) with
        | false => rw [hck] at h; exact h.elim
        | true =>
        rw [hck] at h
        simp only [cond_true] at h ⊢
        split at h
        case h_2 => exact h.elim
        rename_i a hpk
        try simp only [hpk]
        have hs := suf_put (suf_kill (dsts (ahead none (o :: r))) (Suf.refl hA)) p.dst a
        exact obs_imp h fun h => list_imp hcf r _ _ st k k' h hs.ne hn fun A' st' h1 => hk A' st' (hs.trans h1)
theorem reg_imp {P : Program} {S : Sums} {cf : CallF} (hcf : CallImp cf) {N : Nat} {ops : Array Oper} {d : Bool} {A : AE} {st : Stt} {k k' : AE → Stt → Prop} (h : evReg P S cf N ops d A st k) (hA : A ≠ []) (hn : st.h ≠ []) (hk : ∀ A' st', Suf A A' → SufS st st' → k A' st' → k' A' st') : evReg P S cf N ops d A st k' := by
  unfold evReg at h ⊢
  split at h
  · rename_i ps A' hq
    try simp only [hq]
    refine obs_imp h fun h => hk A' st ?_ (SufS.refl hn) h
    revert hq
    cases (d && !Region.lexB .any ops) with
    | true => intro h; cases h
    | false => intro hq; exact suf_blk _ _ _ _ hq (Suf.refl hA)
  · rename_i hq
    try simp only [hq]
    cases d with
    | true =>
      simp only [cond_true] at h ⊢
      split at h
      · rename_i ps A' st' hd
        try simp only [hd]
        obtain ⟨h1, h2⟩ := suf_drawn hd hA hn
        exact obs_imp h fun h => hk A' st' h1 h2 h
      · exact h.elim
    | false =>
      simp only [cond_false] at h ⊢
      exact list_imp hcf _ _ _ _ _ _ h hA hn hk
def SufO (A : AE) (st : Stt) : Out → Prop
  | .norm A' st' => Suf A A' ∧ SufS st st'
  | .exit _ A' st' => Suf A A' ∧ SufS st st'
  | .ret A' st' => Suf A A' ∧ SufS st st'
theorem SufO.up {A A1 : AE} {st st1 : Stt} {o : Out} (h : SufO A1 st1 o) (h1 : Suf A A1) (h2 : SufS st st1) : SufO A st o := by
  cases o <;> exact ⟨h1.trans h.1, h2.trans h.2⟩
def EvImp (ev : AE → Stt → (Out → Prop) → Prop) : Prop := ∀ A st (k k' : Out → Prop), ev A st k → A ≠ [] → st.h ≠ [] → (∀ o, SufO A st o → k o → k' o) → ev A st k'
theorem loop_imp {ev : AE → Stt → (Out → Prop) → Prop} (he : EvImp ev) : ∀ m, EvImp (evLoop ev m)
  | 0, _, _, _, _, h, _, _, _ => h.elim
  | m + 1, A, st, k, k', h, hA, hn, hk => by
    refine he A st _ _ h hA hn fun o ho h => ?_
    cases o with
    | norm A' st' => exact loop_imp he m A' st' k k' h ho.1.ne ho.2.1.ne fun o' ho' => hk o' (ho'.up ho.1 ho.2)
    | exit i A' st' => exact hk _ ho h
    | ret A' st' => exact hk _ ho h
theorem ann_imp {ev : AE → Stt → (Out → Prop) → Prop} (he : EvImp ev) (kill : List Nat) (L : LAnn) (A : AE) (st : Stt) (k k' : Out → Prop) (h : evAnn ev kill L A st k) (hA : A ≠ []) (hn : st.h ≠ []) (hk : ∀ o, SufO A st o → k o → k' o) : evAnn ev kill L A st k' := by
  obtain ⟨g0, h⟩ := h
  refine ⟨g0, ?_⟩
  split at h
  · exact h.elim
  · rename_i ps hm
    try simp only [hm]
    revert h
    cases (small kill && small (elder st.nx (L.sl g0) (L.ob g0) A st)) with
    | false => intro h; exact h.elim
    | true =>
      intro h
      simp only [cond_true] at h ⊢
      refine obs_imp h fun h => ⟨h.1, fun g hg => he _ _ _ _ (h.2 g hg) (by simp [headA]) (by simp [headS]) fun o ho h => ?_⟩
      have hh : SufO A st o := ho.up (Suf.head hA _ _) ⟨Suf.head hn _ _, Nat.le_add_right _ _⟩
      cases o with
      | norm A' st' => exact h
      | exit i A' st' => exact hk _ hh h
      | ret A' st' => exact hk _ hh h
theorem nils_suf : ∀ (l : List (Nat × AX)) {A : AE} {st : Stt} {x : AE × Stt}, nilsA l A st = some x → A ≠ [] → st.h ≠ [] → Suf A x.1 ∧ SufS st x.2
  | [], A, st, x, h, hA, hn => by
    simp only [nilsA, Option.some.injEq] at h
    subst h
    exact ⟨Suf.refl hA, SufS.refl hn⟩
  | (t, .q e dt []) :: r, A, st, x, h, hA, hn => by
    simp only [nilsA] at h
    split at h
    · have a1 : Suf A (putA A (some t) (.ow st.nx 0)) := (Suf.refl hA).set _ _
      have a2 : SufS st (newX st (.q e dt [])) := (SufS.refl hn).new _
      obtain ⟨b1, b2⟩ := nils_suf r h a1.ne a2.1.ne
      exact ⟨a1.trans b1, a2.trans b2⟩
    · cases h
  | (t, .q e dt (_ :: _)) :: r, A, st, x, h, hA, hn => by simp only [nilsA] at h; cases h
  | (t, .c e cs) :: r, A, st, x, h, hA, hn => by simp only [nilsA] at h; cases h
theorem nils_imp {o : Option (AE → Stt → LAnn)} {A : AE} {st : Stt} {go go' : AE → Stt → Prop} (h : evNils o A st go) (hA : A ≠ []) (hn : st.h ≠ []) (hk : ∀ A' st', Suf A A' → SufS st st' → go A' st' → go' A' st') : evNils o A st go' := by
  unfold evNils at h ⊢
  split at h
  · exact hk A st (Suf.refl hA) (SufS.refl hn) h
  · rename_i M
    obtain ⟨g, h⟩ := h
    refine ⟨g, ?_⟩
    split at h
    · rename_i x hx
      try simp only [hx]
      obtain ⟨a1, a2⟩ := nils_suf _ hx hA hn
      exact hk _ _ a1 a2 h
    · exact h.elim
theorem cut_imp {eva evb : AE → Stt → (Out → Prop) → Prop} (ha : EvImp eva) (hb : EvImp evb) (kill : List Nat) (L : LAnn) (A : AE) (st : Stt) (k k' : Out → Prop) (h : evCut eva evb kill L A st k) (hA : A ≠ []) (hn : st.h ≠ []) (hk : ∀ o, SufO A st o → k o → k' o) : evCut eva evb kill L A st k' := by
  refine ⟨ha _ _ _ _ h.1 (by simp) (by simp) fun o ho h => ?_, fun g hg => hb _ _ _ _ (h.2 g hg) (by simp [headA]) (by simp [headS]) fun o ho h => hk o (ho.up (Suf.head hA _ _) ⟨Suf.head hn _ _, Nat.le_add_right _ _⟩) h⟩
  have hh : SufO A st o := ho.up (Suf.head hA _ _) ⟨Suf.head hn _ _, Nat.le_refl _⟩
  cases o with
  | norm A' st' => exact h
  | exit i A' st' => exact hk _ hh h
  | ret A' st' => exact hk _ hh h
theorem inl_imp {P : Program} {ev : FuncId → Nat → Code → AE → Stt → (Out → Prop) → Prop} (he : ∀ f N c, EvImp (ev f N c)) : CallImp (callInl P ev) := by
  intro f l st k k' h hn hk
  unfold callInl at h ⊢
  split at h
  · exact h.elim
  · rename_i fn hf
    revert h
    cases Nat.blt fn.ntmps l.length with
    | true => intro h; exact h.elim
    | false =>
      intro h
      simp only [cond_false] at h ⊢
      split at h
      · exact h.elim
      · rename_i c hb
        have hne : ∀ (l : List AV) (i : Nat), argsA l i ≠ [] := by
          intro l
          induction l with
          | nil => intro i; simp [argsA]
          | cons a r ih =>
            intro i
            exact ((Suf.refl (ih (i + 1))).set i (some a)).ne
        have key : ∀ A' st', SufS st st' → retA P fn A' st' k → retA P fn A' st' k' := by
          intro A' st' hs h
          unfold retA at h ⊢
          split at h
          · exact hk _ _ hs h
          · exact h.elim
        refine he f _ c _ _ _ _ h (hne l 0) hn fun o ho h => ?_
        cases o with
        | norm A' st' => exact key A' st' ho.2 h
        | ret A' st' => exact key A' st' ho.2 h
        | exit i A' st' => exact h
theorem code_imp {P : Program} {S : Sums} {an : Anns} : ∀ (n : Nat) (f : FuncId) (N : Nat) (c : Code), EvImp (evCode P S an n f N c)
  | 0, _, _, _, _, _, _, _, h, _, _, _ => by simp only [evCode] at h
  | n + 1, f, N, c, A, st, k, k', h, hA, hn, hk => by
    have ih := code_imp (P := P) (S := S) (an := an) n
    unfold evCode at h ⊢
    split at h
    · exact hk _ ⟨Suf.refl hA, SufS.refl hn⟩ h
    · exact hk _ ⟨Suf.refl hA, SufS.refl hn⟩ h
    · exact reg_imp (inl_imp ih) h hA hn fun A' st' h1 h2 h => hk _ ⟨h1, h2⟩ h
    · split at h
      · exact cut_imp (ih f N _) (ih f N _) _ _ A st k k' h hA hn hk
      · refine ih f N _ A st _ _ h hA hn fun o ho h => ?_
        cases o with
        | norm A' st' => exact ih f N _ A' st' _ _ h ho.1.ne ho.2.1.ne fun o' ho' h => hk o' (ho'.up ho.1 ho.2) h
        | exit i A' st' => exact hk _ ho h
        | ret A' st' => exact hk _ ho h
    · split at h
      · rename_i t ht
        try simp only
        cases t with
        | true => exact ih f N _ A st _ _ h hA hn hk
        | false => exact ih f N _ A st _ _ h hA hn hk
      · exact h.elim
    · refine ih f N _ A st _ _ h hA hn fun o ho h => ?_
      cases o with
      | norm A' st' => exact hk _ ho h
      | exit i A' st' =>
        simp only at h ⊢
        revert h
        cases Nat.beq i _ with
        | true => intro h; exact hk (.norm A' st') ho h
        | false => intro h; exact hk (.exit i A' st') ho h
      | ret A' st' => exact hk _ ho h
    · split at h
      · exact nils_imp h hA hn fun A' st' s1 s2 h => ann_imp (ih f N _) _ _ A' st' k k' h s1.ne s2.1.ne fun o ho h => hk o (ho.up s1 s2) h
      · exact loop_imp (ih f N _) n A st k k' h hA hn hk
    · exact hk _ ⟨Suf.refl hA, SufS.refl hn⟩ h
    · exact hk _ ⟨Suf.refl hA, SufS.refl hn⟩ h
    · exact h.elim
end Go.Proofs.YtbbjonjhaoeidaaDoor.Sv
