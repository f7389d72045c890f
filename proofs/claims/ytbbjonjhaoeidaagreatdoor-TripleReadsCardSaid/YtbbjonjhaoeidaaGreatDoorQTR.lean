/- code.ReadKey: a builder in a loop, by the kit's walk. -/
import Derived.Test.YtbbjonjhaoeidaaGreatDoorQT12
import Derived.Test.YtbbjonjhaoeidaaGreatDoorQTQ
import Derived.WalkKit
import Derived.BigCall
import Derived.OwnWalk
set_option linter.unusedVariables false
set_option linter.unusedSimpArgs false
namespace Go.Proofs
open Go Go.RowKit Go.Proofs.YtbbjonjhaoeidaaGreatDoor.Sv
open Go.Proofs.YtbbjonjhaoeidaaGreatDoor.XT (rkE rkV rkR rkVs rkRs bys)
theorem Tryz.idx_cases : ∀ l : List UInt8, (Lib.indexByte l 0 = -1 ∧ (0 : UInt8) ∉ l) ∨ ∃ p q, l = p ++ 0 :: q ∧ (0 : UInt8) ∉ p ∧ Lib.indexByte l 0 = (p.length : Int)
  | [] => .inl ⟨rfl, by simp⟩
  | b :: l => by
    by_cases hb : b = 0
    · subst hb; exact .inr ⟨[], l, rfl, by simp, by simp [Lib.indexByte]⟩
    · rcases Tryz.idx_cases l with ⟨h1, h2⟩ | ⟨p, q, h1, h2, h3⟩
      · exact .inl ⟨by simp [Lib.indexByte, hb, h1], by simp [h2, Ne.symm hb]⟩
      · refine .inr ⟨b :: p, q, by rw [h1]; rfl, by simp [h2, Ne.symm hb], ?_⟩
        have : ¬ ((p.length : Int) = -1) := by omega
        simp [Lib.indexByte, hb, h3, this]
abbrev Tryz.ints (l : List UInt8) : List Int := l.map fun b => (b.toNat : Int)
theorem Tryz.rk_pre (q : List Int) : ∀ p : List UInt8, (0 : UInt8) ∉ p → rkE (Tryz.ints p ++ q) = rkE q ∧ rkV (Tryz.ints p ++ q) = Tryz.ints p ++ rkV q ∧ rkR (Tryz.ints p ++ q) = rkR q
  | [], _ => ⟨rfl, rfl, rfl⟩
  | b :: p, h => by
    have hb : (b.toNat : Int) ≠ 0 := fun e => h (by
      have : b.toNat = 0 := by omega
      have : b = 0 := UInt8.toNat_inj.1 this
      rw [this]; exact List.mem_cons_self)
    obtain ⟨h1, h2, h3⟩ := Tryz.rk_pre q p (fun h' => h (List.mem_cons_of_mem _ h'))
    obtain ⟨k1, k2, k3⟩ := Go.Proofs.YtbbjonjhaoeidaaGreatDoor.XT.rk_ne hb (Tryz.ints p ++ q)
    exact ⟨k1.trans h1, k2.trans (by rw [h2]; rfl), k3.trans h3⟩
set_option maxRecDepth 1000000
set_option maxHeartbeats 4000000 in
theorem Tryz.rk_walk (s : ByteArray) (w : World) (hs : s.size ≤ 9223372036854775807) (hv : (rkV (bys s)).length ≤ 140737488355326) :
    Calls Tryz.prog 31 #[.string s] w fun e w' => e = .returned (.tuple #[.string (rkVs s), .string (rkRs s), .int .i64 (rkE (bys s))]) ∧ Below w.heap.size w w' := by
  go_enter Tryz.func31, Tryz.ntmps31
  go_wp2
  go_loopw [0] (fun v0 wr => ∃ (r : ByteArray) (acc : List UInt8), v0 = .string r ∧ Lib.IsBuilder 97 5 w.heap.size w.heap.size (Lib.byteCells acc) wr ∧ Below w.heap.size w wr ∧ acc.length + r.size ≤ s.size ∧ rkE (bys s) = rkE (bys r) ∧ rkV (bys s) = (acc.map fun b => (b.toNat : Int)) ++ rkV (bys r) ∧ rkR (bys s) = rkR (bys r)) (fun v0 _ => match v0 with | .string r => r.size | _ => 0)
  case atStart => exact ⟨s, [], rfl, Lib.fresh_isBuilder 97 5 w, (Below.refl _ w).alloc (Nat.le_refl _) _, by simp, rfl, rfl, rfl⟩
  case round =>
    obtain ⟨r, acc, rfl, hI, hbw, hlen, hE, hV, hR⟩ := hrel
    have hsz : w.heap.size < wr.heap.size := by
      rcases hI with h | h <;> exact h.lt
    have hfail : ∀ e : Int, rkE (bys s) = e → e ≠ 0 → rkVs s = ⟨#[]⟩ ∧ rkRs s = ⟨#[]⟩ := fun e he h0 => ⟨by rw [rkVs, if_neg (by rw [he]; exact h0)], by rw [rkRs, if_neg (by rw [he]; exact h0)]⟩
    rcases Tryz.idx_cases r.data.toList with ⟨hi, h0⟩ | ⟨p, q, hpq, h0, hi⟩
    · go_wp2_with (go_at_call 55; refine (Tryz.strings_IndexByte r 0 _).mono ?_)
      rintro e W1 ⟨he, rfl⟩
      rw [show (Int.toNat 0).toUInt8 = 0 from rfl, hi] at he
      subst he
      go_wp2
      go_ret3
      have h20 : rkE (bys s) = 20 := by
        rw [hE]
        have := (Tryz.rk_pre [] r.data.toList h0).1
        rw [List.append_nil] at this
        exact this
      obtain ⟨a1, a2⟩ := hfail 20 h20 (by decide)
      rw [a1, a2, h20]
      exact ⟨rfl, hbw⟩
    · have hrs : r.size = p.length + q.length + 1 := by
        have : r.size = r.data.toList.length := by rw [Array.length_toList]; rfl
        rw [this, hpq]; simp; omega
      have hbr : bys r = Tryz.ints p ++ 0 :: Tryz.ints q := by
        show Tryz.ints r.data.toList = _
        rw [hpq]; simp [Tryz.ints]
      obtain ⟨p1, p2, p3⟩ := Tryz.rk_pre (0 :: Tryz.ints q) p h0
      rw [← hbr] at p1 p2 p3
      have hA : acc.length + p.length ≤ (rkV (bys s)).length := by rw [hV, p2, List.length_append, List.length_append, List.length_map, List.length_map]; omega
      go_wp2_with (go_at_call 55; refine (Tryz.strings_IndexByte r 0 _).mono ?_)
      rintro e W1 ⟨he, rfl⟩
      rw [show (Int.toNat 0).toUInt8 = 0 from rfl, hi] at he
      subst he
      have hlb : (Lib.byteCells acc).length = acc.length := Lib.byteCells_length _
      have hex : (r.extract 0 p.length).size = p.length := by rw [ByteArray.size_extract]; omega
      cases q with
      | nil =>
        go_wp2
        all_goals go_ret3
        all_goals
          have h20 : rkE (bys s) = 20 := by rw [hE, p1]; rfl
          obtain ⟨a1, a2⟩ := hfail 20 h20 (by decide)
          rw [a1, a2, h20]
          exact ⟨rfl, hbw⟩
      | cons d q =>
        have hrs : r.size = p.length + q.length + 2 := by rw [hrs]; simp; omega
        go_wp2_with (go_at_call 56; refine (Tryz.bldStr w.heap.size w.heap.size _ (r.extract 0 p.length) _ hI (by omega) (by omega)).mono ?_)
        · rename_i hx; exfalso; rcases hx with hx | hx
          · omega
          · have := eq_of_beq hx; omega
        rintro e W2 ⟨rfl, hI2, b2⟩
        have hlb2 : (Lib.byteCells acc ++ Lib.strCells (r.extract 0 p.length)).length = acc.length + p.length := by rw [List.length_append, hlb, Lib.strCells_length, hex]
        have hb2 : W1.heap.size ≤ W2.heap.size := b2.size
        have hdl : ∀ h : p.length + 1 < r.size, (r[p.length + 1]'h) = d := fun h => by
          have : r.data.toList[p.length + 1]? = some d := by rw [hpq]; simp
          have h' : p.length + 1 < r.data.size := h
          rw [Array.getElem?_toList, Array.getElem?_eq_getElem h'] at this
          exact Option.some.inj this
        have hxl : (r.extract 0 p.length).data.toList = p := by
          have : r.data.toList.take p.length = p := by rw [hpq]; simp
          simp [ByteArray.data_extract, this]
        have hcells : Lib.byteCells acc ++ Lib.strCells (r.extract 0 p.length) = Lib.byteCells (acc ++ p) := by
          rw [Lib.strCells_eq, hxl, Lib.byteCells, Lib.byteCells, Lib.byteCells, List.map_append]
        rw [hcells] at hI2
        have hq : bys (r.extract (p.length + 2) (p.length + (q.length + 1) + 1)) = Tryz.ints q := by
          rw [Go.Proofs.YtbbjonjhaoeidaaGreatDoor.XT.bys_extract, hbr]
          have : Tryz.ints p ++ 0 :: Tryz.ints (d :: q) = (Tryz.ints p ++ [0, (d.toNat : Int)]) ++ Tryz.ints q := by simp [Tryz.ints]
          rw [this, List.drop_append_of_le_length (by simp [Tryz.ints]), List.drop_of_length_le (by simp [Tryz.ints])]
          exact List.take_of_length_le (by simp [Tryz.ints]; omega)
        go_wp2_with (go_at_call 58; refine (Tryz.bldByte w.heap.size w.heap.size _ 0 _ (.inr hI2) (by rw [Lib.byteCells_length, List.length_append]; omega) (by omega)).mono ?_)
        · rename_i hd1 K hK
          have n1 : (d.toNat : Int) = 1 := by simpa using hd1
          refine Go.wp_mono (wpIn_wide.1 (Tryz.rk_draw (E := Go.Proofs.YtbbjonjhaoeidaaGreatDoor.W.envOf _) (w0 := w) (B := w.heap.size) (i := p.length) (acc := acc ++ p) (r := r) (by kernel_rfl) rfl rfl rfl rfl rfl rfl rfl rfl rfl rfl rfl rfl rfl rfl rfl rfl rfl rfl rfl rfl rfl rfl rfl rfl rfl rfl rfl rfl rfl rfl rfl rfl rfl rfl rfl rfl rfl (by omega) (by omega) (Lib.IsBuilderF.of (.inr hI2)) (by omega) (hbw.trans b2) rfl rfl rfl _ ⟨rfl, rfl⟩ rfl)) ?_
          rintro e a2 w2 ⟨k1, k2⟩
          cases e with
          | normal =>
            obtain ⟨v2, v3, v4, kb⟩ := k2
            refine hK a2 w2 ?_
            refine wp_ret ?_
            show bodyPost Tryz.prog Tryz.f31 (fun e w2 => e = .returned (.tuple #[.string (rkVs s), .string (rkRs s), .int .i64 (rkE (bys s))]) ∧ Below w.heap.size w w2) Exit.ret a2 w2
            refine bodyPost_ret (results_tmp3 (fn := Tryz.f31) rfl _ _ _) k1.2 ?_
            have v2 : a2.tmps.getD 2 undef = _ := v2
            have v3 : a2.tmps.getD 3 undef = _ := v3
            have v4 : a2.tmps.getD 4 undef = _ := v4
            rw [v2, v3, v4]
            have z0 : rkE (bys s) = 0 := by rw [hE, p1]; show rkE (0 :: (d.toNat : Int) :: Tryz.ints q) = _; rw [rkE, if_neg (by simp), if_pos n1]
            have zV : rkV (bys s) = Tryz.ints (acc ++ p) := by rw [hV, p2]; show _ ++ (_ ++ rkV (0 :: (d.toNat : Int) :: Tryz.ints q)) = _; rw [rkV, if_neg (by simp), if_pos n1]; simp [Tryz.ints]
            have zR : rkR (bys s) = Tryz.ints q := by rw [hR, p3]; show rkR (0 :: (d.toNat : Int) :: Tryz.ints q) = _; rw [rkR, if_neg (by simp), if_pos n1]
            have y1 : rkVs s = ⟨(acc ++ p).toArray⟩ := by rw [rkVs, if_pos z0, zV]; exact Go.Proofs.YtbbjonjhaoeidaaGreatDoor.XT.sL_nums _
            have y2 : rkRs s = r.extract (p.length + 2) r.size := by
              rw [rkRs, if_pos z0, zR, ← hq, Go.Proofs.YtbbjonjhaoeidaaGreatDoor.XT.sL_bys]; congr 1; omega
            rw [y1, y2, z0]
            exact ⟨rfl, kb⟩
          | _ => exact k2.elim
        · rintro e W3 ⟨rfl, hI3, b3⟩
          go_wp2
          rename_i hx1 hx2
          have n1 : ¬ (d.toNat : Int) = 1 := by simpa using hx1
          have n2 : (d.toNat : Int) = 255 := by simpa using hx2
          have n2' : ¬ (d.toNat : Int) ≠ 255 := fun h => h n2
          refine ⟨⟨_, acc ++ p ++ [0], rfl, .inr (by rw [Lib.byteCells] at hI3 ⊢; rw [List.map_append]; exact hI3), (hbw.trans b2).trans b3, ?_, ?_, ?_, ?_⟩, ?_⟩
          · rw [ByteArray.size_extract]; simp; omega
          · rw [hE, p1, hq]; show rkE (0 :: (d.toNat : Int) :: Tryz.ints q) = _; rw [rkE, if_neg (by simp), if_neg n1, if_neg n2']
          · rw [hV, p2, hq]; show _ ++ (_ ++ rkV (0 :: (d.toNat : Int) :: Tryz.ints q)) = _; rw [rkV, if_neg (by simp), if_neg n1, if_neg n2']; simp [Tryz.ints]
          · rw [hR, p3, hq]; show rkR (0 :: (d.toNat : Int) :: Tryz.ints q) = _; rw [rkR, if_neg (by simp), if_neg n1, if_neg n2']
          · show (r.extract (p.length + 2) (p.length + (q.length + 1) + 1)).size < r.size
            rw [ByteArray.size_extract]; omega
        · go_ret3
          rename_i hx1 hx2
          have n1 : ¬ (d.toNat : Int) = 1 := by simpa using hx1
          have n2 : (d.toNat : Int) ≠ 255 := by simpa using hx2
          have h21 : rkE (bys s) = 21 := by rw [hE, p1]; show rkE (0 :: (d.toNat : Int) :: Tryz.ints q) = _; rw [rkE, if_neg (by simp), if_neg n1, if_pos n2]
          obtain ⟨a1, a2⟩ := hfail 21 h21 (by decide)
          rw [a1, a2, h21]
          exact ⟨rfl, hbw.trans b2⟩
end Go.Proofs
namespace Go.Proofs.YtbbjonjhaoeidaaGreatDoor.XT
open Go Go.RowKit Go.Proofs.YtbbjonjhaoeidaaGreatDoor.Sv Go.Proofs.YtbbjonjhaoeidaaGreatDoor.W
/-- reading a key, the code's -/
def rkC : Con := ⟨[.d true .s], fun ds => (fun (a : D) => [a.str.size ≤ 9223372036854775807, (rkV (bys a.str)).length ≤ 140737488355326]) (nthD ds 0), [.d .s, .d .s, .d (.i .i64)], fun ds => (fun (a : D) => [.s (rkVs a.str), .s (rkRs a.str), .i (rkE (bys a.str))]) (nthD ds 0), fun ds => []⟩
theorem rkC_ok : ConOK Tryz.prog gl 31 rkC := scal_ok rfl (fun ds => ⟨_, rfl⟩) fun w ds vs e hg hp => by
  cases e
  have h1 : (nthD ds 0).str.size ≤ 9223372036854775807 := hp _ (by simp [rkC])
  have h2 : (rkV (bys (nthD ds 0).str)).length ≤ 140737488355326 := hp _ (by simp [rkC])
  refine fnc_of (Tryz.rk_walk (nthD ds 0).str w h1 h2) ?_
  rintro e w' ⟨rfl, hb⟩
  exact ⟨_, rfl, rfl, Ext.of_below hb⟩
end Go.Proofs.YtbbjonjhaoeidaaGreatDoor.XT
