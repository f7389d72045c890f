/- lex.Text: a builder in a loop, by the kit's walk. -/
import Derived.Test.YtlfafkeamppakaaDoorQYR0
import Derived.StillTailTactics
set_option linter.unusedVariables false
set_option linter.unusedSimpArgs false
namespace Go.Proofs.YtlfafkeamppakaaDoor.XT
open Go Go.RowKit Go.Proofs.YtlfafkeamppakaaDoor.Sv
theorem hxd_in' {v : Int} (h : 0 ≤ v ∧ v < 16) : 0 ≤ hxd v ∧ hxd v < 256 := by unfold hxd; split <;> omega
theorem esc_in' {c : Int} (h : 0 ≤ c ∧ c < 256) : ∀ d ∈ escC c, 0 ≤ d ∧ d < 256 := by
  unfold escC
  have h1 := hxd_in' (v := c / 16) (by omega)
  have h2 := hxd_in' (v := c % 16) (by omega)
  repeat' split
  all_goals intro d hd; simp only [List.mem_cons, List.not_mem_nil, or_false] at hd
  · rcases hd with rfl | rfl <;> omega
  · rcases hd with rfl | rfl <;> omega
  · rcases hd with rfl | rfl | rfl | rfl <;> omega
  · subst hd; omega
theorem qu_in' {L : List Int} (h : ∀ c ∈ L, 0 ≤ c ∧ c < 256) : ∀ d ∈ quL L, 0 ≤ d ∧ d < 256 := by
  intro d hd
  simp only [quL, qtL, List.mem_cons, List.mem_append, List.mem_flatMap, List.not_mem_nil, or_false] at hd
  rcases hd with rfl | ⟨c, hc, hd⟩ | rfl
  · omega
  · exact esc_in' (h c hc) d hd
  · omega
end Go.Proofs.YtlfafkeamppakaaDoor.XT
namespace Go.Proofs
open Go Go.RowKit Go.Proofs.YtlfafkeamppakaaDoor.Sv
open Go.Proofs.YtlfafkeamppakaaDoor.XT (bys sL quL qtL escC hxd)
abbrev Tryd.cl (l : List Int) : List Value := l.map (Value.int .u8)
theorem Tryd.cl_one (l : List Int) : ∀ u ∈ Tryd.cl l, u.oneCell' = true := by
  intro u hu
  obtain ⟨c, _, rfl⟩ := List.mem_map.1 hu
  rfl
theorem Tryd.and15 : ∀ x : Fin 256, bits BinOp.and .u8 ((x.val : Nat) : Int) 15 = ((x.val % 16 : Nat) : Int) := by decide +kernel
theorem Tryd.hx_get : ∀ m : Fin 16, (((ByteArray.mk #[48, 49, 50, 51, 52, 53, 54, 55, 56, 57, 97, 98, 99, 100, 101, 102])[m.val]'(m.isLt)).toNat : Int) = hxd ((m.val : Nat) : Int) := by decide +kernel
theorem Tryd.cl_bytes (l : List Int) (h : ∀ c ∈ l, 0 ≤ c ∧ c < 256) : Lib.byteCells (l.map fun c => c.toNat.toUInt8) = Tryd.cl l := by
  unfold Lib.byteCells Tryd.cl
  rw [List.map_map]
  refine List.map_congr_left fun c hc => ?_
  obtain ⟨h0, h1⟩ := h c hc
  have : (c.toNat.toUInt8.toNat : Int) = c := by
    show ((UInt8.ofNat c.toNat).toNat : Int) = c
    rw [UInt8.toNat_ofNat']
    omega
  simp only [Function.comp_apply, this]
theorem Tryd.bldPut (B b : Nat) (bs vs : List Value) (w : World) (h : Lib.BuilderAt 61 5 B b (.pointer (some ⟨b, 0, none⟩)) bs w) (h1 : ∀ u ∈ vs, u.oneCell' = true) (hlen : bs.length + vs.length ≤ 140737488355328) (hBw : B ≤ w.heap.size) :
    Calls Tryd.prog 28 #[.pointer (some ⟨b, 0, none⟩), .slice (some ⟨w.heap.size, 0, none⟩) vs.length vs.length] (w.alloc (Obj.cells vs.toArray 5)) fun e w' => e = .returned (.tuple #[.int .i64 vs.length, .nilIface]) ∧ (Lib.BuilderAt 61 5 B b (.pointer (some ⟨b, 0, none⟩)) (bs ++ vs) w' ∧ Below B w w') := by
  obtain ⟨hB, v, hbk, hown, hne⟩ := h
  have hlt : b < w.heap.size := by
    rcases Nat.lt_or_ge b w.heap.size with h' | h'
    · exact h'
    · simp [Array.getElem?_eq_none h'] at hbk
  have hI : Lib.BuilderAt 61 5 B b (.pointer (some ⟨b, 0, none⟩)) bs (w.alloc (Obj.cells vs.toArray 5)) := ⟨hB, v, by rw [Lib.alloc_old w _ b hlt]; exact hbk, hown.alloc _, hne⟩
  have hcl : ∀ j u, vs[j]? = some u → (w.alloc (Obj.cells vs.toArray 5)).cell? ⟨w.heap.size, j, none⟩ = some u := by
    intro j u hj
    rw [World.cell?_alloc_at _ _ _ _ rfl]
    simpa using hj
  refine (Tryd.bldWrite B b w.heap.size vs.length bs vs _ hI hcl h1 rfl hlen (by simp; omega)).mono ?_
  rintro e w' ⟨rfl, k1, k2⟩
  exact ⟨rfl, k1, ((Below.refl B w).alloc hBw _).trans k2⟩
set_option maxRecDepth 1000000
set_option maxHeartbeats 4000000 in
theorem Tryd.tx_walk (s : ByteArray) (w : World) (hs : s.size ≤ 1099511627776) :
    Calls Tryd.prog 18 #[.string s] w fun e w' => e = .returned (.string (sL (quL (bys s)))) ∧ Below w.heap.size w w' := by
  go_enter Tryd.func18, Tryd.ntmps18
  go_wp2_with (go_at_call 27; refine (Tryd.bldByte w.heap.size w.heap.size [] 34 _ (Lib.fresh_isBuilder 61 5 w) (by simp) (by simp)).mono ?_)
  rintro e W1 ⟨rfl, hI, hb⟩
  go_wp2
  go_loopw [9] (fun v9 wr => ∃ (k : Nat), v9 = .int .i64 k ∧ k ≤ s.size ∧ Lib.BuilderAt 61 5 w.heap.size w.heap.size (.pointer (some ⟨w.heap.size, 0, none⟩)) (Tryd.cl (34 :: qtL ((bys s).take k))) wr ∧ Below w.heap.size w wr) (fun v9 _ => match v9 with | .int _ k => s.size - k.toNat | _ => 0)
  case atStart => exact ⟨0, rfl, Nat.zero_le _, by simpa [qtL] using hI, ((Below.refl _ w).alloc (Nat.le_refl _) _).trans hb⟩
  case round =>
    obtain ⟨k, rfl, hk, hI, hbw⟩ := hrel
    have hlC : (Tryd.cl (34 :: qtL ((bys s).take k))).length ≤ 4398046511105 := by
      have h1 := Go.Proofs.YtlfafkeamppakaaDoor.XT.qt_len ((bys s).take k)
      have h2 : ((bys s).take k).length ≤ k := by rw [List.length_take]; omega
      rw [List.length_map, List.length_cons]; omega
    have hsz := hbw.size
    by_cases hk2 : k < s.size
    rotate_left
    · have hke : k = s.size := by omega
      have hall : (bys s).take k = bys s := List.take_of_length_le (by rw [Go.Proofs.YtlfafkeamppakaaDoor.XT.bys_length]; omega)
      go_wp2_with (go_at_call 27; refine (Tryd.bldByte w.heap.size w.heap.size _ 34 _ (.inr hI) (by omega) hsz).mono ?_)
      rintro e W2 ⟨rfl, hI2, b2⟩
      have hc : Tryd.cl (34 :: qtL ((bys s).take k)) ++ [Value.int .u8 34] = Lib.byteCells ((quL (bys s)).map fun c => c.toNat.toUInt8) := by
        rw [hall, Tryd.cl_bytes _ (Go.Proofs.YtlfafkeamppakaaDoor.XT.qu_in' (Go.Proofs.YtlfafkeamppakaaDoor.XT.bys_all_in s))]
        simp [Tryd.cl, quL]
      rw [hc] at hI2
      have hsz2 := b2.size
      go_wp2_with (go_at_call 29; refine (Tryd.bldDone w.heap.size w.heap.size _ _ (.inr hI2) (by omega)).mono ?_)
      rintro e W3 ⟨rfl, b3⟩
      go_wp2
      go_ret
      exact ⟨rfl, (hbw.trans b2).trans b3⟩
    have hbx : byteAt' s k = ((s[k]'hk2).toNat : Int) := by
      have h' : k < s.data.size := hk2
      simp [byteAt', Array.getD, h']
      rw [dif_pos hk2]
      rfl
    have step : ∀ (vs : List Int) (W2 : World), escC (byteAt' s k) = vs → Lib.BuilderAt 61 5 w.heap.size w.heap.size (.pointer (some ⟨w.heap.size, 0, none⟩)) (Tryd.cl (34 :: qtL ((bys s).take k)) ++ Tryd.cl vs) W2 → Below w.heap.size w W2 → (∃ k_1 : Nat, Value.int .i64 ((k : Int) + 1) = Value.int .i64 (k_1 : Int) ∧ k_1 ≤ s.size ∧ Lib.BuilderAt 61 5 w.heap.size w.heap.size (.pointer (some ⟨w.heap.size, 0, none⟩)) (Tryd.cl (34 :: qtL ((bys s).take k_1))) W2 ∧ Below w.heap.size w W2) ∧ s.size - ((k : Int) + 1).toNat < s.size - ((k : Int)).toNat := by
      rintro vs W2 rfl h1 h2
      refine ⟨⟨k + 1, rfl, hk2, ?_, h2⟩, by omega⟩
      rw [Go.Proofs.YtlfafkeamppakaaDoor.XT.bys_succ hk2]
      have e : Tryd.cl (34 :: qtL ((bys s).take k ++ [byteAt' s k])) = Tryd.cl (34 :: qtL ((bys s).take k)) ++ Tryd.cl (escC (byteAt' s k)) := by
        simp [Tryd.cl, qtL]
      rw [e]; exact h1
    go_wp2_with (first | (go_at_call 28; refine (Tryd.bldPut w.heap.size w.heap.size _ [.int .u8 _, .int .u8 _] _ hI (Tryd.cl_one [_, _]) (by show _ + 2 ≤ _; omega) hsz).mono ?_) | (go_at_call 27; refine (Tryd.bldByte w.heap.size w.heap.size _ _ _ (.inr hI) (by omega) hsz).mono ?_))
    · have h34 : ((s[k]'hk2).toNat : Int) = 34 := by assumption
      rintro e W2 ⟨rfl, hI2, b2⟩
      go_wp2
      refine step [92, 34] W2 (by rw [hbx, h34]; rfl) hI2 (hbw.trans b2)
    · have h92 : (((s[k]'hk2).toNat : Int) == 34) = true ∨ (((s[k]'hk2).toNat : Int) == 92) = true := by assumption
      rintro e W2 ⟨rfl, hI2, b2⟩
      go_wp2
      exact step [92, ((s[k]'hk2).toNat : Int)] W2 (by rw [hbx, escC, if_pos (by simpa using h92)]) hI2 (hbw.trans b2)
    · have hn92 : (((s[k]'hk2).toNat : Int) == 34) = false ∧ (((s[k]'hk2).toNat : Int) == 92) = false := by assumption
      have h10 : (((s[k]'hk2).toNat : Int) == 10) = true := by assumption
      have h10 : ((s[k]'hk2).toNat : Int) = 10 := by simpa using h10
      rintro e W2 ⟨rfl, hI2, b2⟩
      go_wp2
      exact step [92, 110] W2 (by rw [hbx, h10]; rfl) hI2 (hbw.trans b2)
    · have hor : ((s[k]'hk2).toNat : Int) < 32 ∨ 126 < ((s[k]'hk2).toNat : Int) := by first | assumption | exact .inl (by assumption)
      have hn34 : ¬ ((s[k]'hk2).toNat : Int) = 34 := by assumption
      have hn92 : (((s[k]'hk2).toNat : Int) == 34) = false ∧ (((s[k]'hk2).toNat : Int) == 92) = false := by assumption
      have hn10 : (((s[k]'hk2).toNat : Int) == 10) = false := by assumption
      go_still_tail 6, (by kernel_rfl)
      have hx := UInt8.toNat_lt (s[k]'hk2)
      generalize (s[k]'hk2).toNat = x at *
      rw [show ((x : Int) / 16) = ((x / 16 : Nat) : Int) from by omega]
      have hd1 : x / 16 < 16 := by omega
      have hr1 : x % 16 < 16 := by omega
      have h15 := Tryd.and15 ⟨x, hx⟩
      simp only at h15
      have t1 := Tryd.hx_get ⟨x / 16, hd1⟩
      have t2 := Tryd.hx_get ⟨x % 16, hr1⟩
      simp only at t1 t2
      generalize hm : x / 16 = m at *
      generalize hr : x % 16 = r at *
      have hd2 : (m : Int) < 16 := by omega
      have hr2 : (r : Int) < 16 := by omega
      repeat still_step
      try (rw [h15]; repeat still_step)
      refine wpStill_nil ?_
      change wpList _ _ _ _ _ wr.drew
      have hI' : Lib.BuilderAt 61 5 w.heap.size w.heap.size (.pointer (some ⟨w.heap.size, 0, none⟩)) (Tryd.cl (34 :: qtL ((bys s).take k))) wr.drew := by
        obtain ⟨g1, v, g2, g3, g4⟩ := hI
        exact ⟨g1, v, g2, g3.drew, g4⟩
      have hbw' : Below w.heap.size w wr.drew := hbw.trans ((Below.refl _ wr).drew)
      have hsz' : w.heap.size ≤ wr.drew.heap.size := hsz
      generalize wr.drew = wd at *
      go_wp2_with (go_at_call 28; refine (Tryd.bldPut w.heap.size w.heap.size _ [.int .u8 _, .int .u8 _, .int .u8 _, .int .u8 _] _ hI' (Tryd.cl_one [_, _, _, _]) (by show _ + 4 ≤ _; omega) hsz').mono ?_)
      rintro e W2 ⟨rfl, hI2, b2⟩
      go_wp2
      refine step [92, 120, hxd ((x : Int) / 16), hxd ((x : Int) % 16)] W2 ?_ ?_ (hbw'.trans b2)
      · rw [hbx, escC, if_neg (by rintro (h | h); exact hn34 h; rw [h] at hn92; exact absurd hn92.2 (by decide)), if_neg (by intro h; rw [h] at hn10; exact absurd hn10 (by decide)), if_pos hor]
      · rw [show (m : Int) = (x : Int) / 16 from by omega, show (r : Int) = (x : Int) % 16 from by omega] at hI2
        exact hI2
    · have hn92 : (((s[k]'hk2).toNat : Int) == 34) = false ∧ (((s[k]'hk2).toNat : Int) == 92) = false := by assumption
      have hn10 : (((s[k]'hk2).toNat : Int) == 10) = false := by assumption
      have hin : 32 ≤ ((s[k]'hk2).toNat : Int) ∧ ((s[k]'hk2).toNat : Int) ≤ 126 := by assumption
      rintro e W2 ⟨rfl, hI2, b2⟩
      go_wp2
      refine step [((s[k]'hk2).toNat : Int)] W2 ?_ hI2 (hbw.trans b2)
      have n1 : ¬ (((s[k]'hk2).toNat : Int) = 34 ∨ ((s[k]'hk2).toNat : Int) = 92) := by simpa using hn92
      have n2 : ¬ ((s[k]'hk2).toNat : Int) = 10 := by simpa using hn10
      rw [hbx, escC, if_neg n1, if_neg n2, if_neg (by omega)]
    · have hor : ((s[k]'hk2).toNat : Int) < 32 ∨ 126 < ((s[k]'hk2).toNat : Int) := by first | assumption | exact .inl (by assumption)
      have hn34 : ¬ ((s[k]'hk2).toNat : Int) = 34 := by assumption
      have hn92 : (((s[k]'hk2).toNat : Int) == 34) = false ∧ (((s[k]'hk2).toNat : Int) == 92) = false := by assumption
      have hn10 : (((s[k]'hk2).toNat : Int) == 10) = false := by assumption
      go_still_tail 6, (by kernel_rfl)
      have hx := UInt8.toNat_lt (s[k]'hk2)
      generalize (s[k]'hk2).toNat = x at *
      rw [show ((x : Int) / 16) = ((x / 16 : Nat) : Int) from by omega]
      have hd1 : x / 16 < 16 := by omega
      have hr1 : x % 16 < 16 := by omega
      have h15 := Tryd.and15 ⟨x, hx⟩
      simp only at h15
      have t1 := Tryd.hx_get ⟨x / 16, hd1⟩
      have t2 := Tryd.hx_get ⟨x % 16, hr1⟩
      simp only at t1 t2
      generalize hm : x / 16 = m at *
      generalize hr : x % 16 = r at *
      have hd2 : (m : Int) < 16 := by omega
      have hr2 : (r : Int) < 16 := by omega
      repeat still_step
      try (rw [h15]; repeat still_step)
      refine wpStill_nil ?_
      change wpList _ _ _ _ _ wr.drew
      have hI' : Lib.BuilderAt 61 5 w.heap.size w.heap.size (.pointer (some ⟨w.heap.size, 0, none⟩)) (Tryd.cl (34 :: qtL ((bys s).take k))) wr.drew := by
        obtain ⟨g1, v, g2, g3, g4⟩ := hI
        exact ⟨g1, v, g2, g3.drew, g4⟩
      have hbw' : Below w.heap.size w wr.drew := hbw.trans ((Below.refl _ wr).drew)
      have hsz' : w.heap.size ≤ wr.drew.heap.size := hsz
      generalize wr.drew = wd at *
      go_wp2_with (go_at_call 28; refine (Tryd.bldPut w.heap.size w.heap.size _ [.int .u8 _, .int .u8 _, .int .u8 _, .int .u8 _] _ hI' (Tryd.cl_one [_, _, _, _]) (by show _ + 4 ≤ _; omega) hsz').mono ?_)
      rintro e W2 ⟨rfl, hI2, b2⟩
      go_wp2
      refine step [92, 120, hxd ((x : Int) / 16), hxd ((x : Int) % 16)] W2 ?_ ?_ (hbw'.trans b2)
      · rw [hbx, escC, if_neg (by rintro (h | h); exact hn34 h; rw [h] at hn92; exact absurd hn92.2 (by decide)), if_neg (by intro h; rw [h] at hn10; exact absurd hn10 (by decide)), if_pos hor]
      · rw [show (m : Int) = (x : Int) / 16 from by omega, show (r : Int) = (x : Int) % 16 from by omega] at hI2
        exact hI2
end Go.Proofs
