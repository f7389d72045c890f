import Derived.Test.YtbpamkbegggeoaaV12
namespace Go.Proofs.Ytbpamkbegggeoaa.T
open W Go.RowKit
set_option maxRecDepth 100000
set_option maxHeartbeats 400000

theorem ref_OwnEntries {w : World} {X : List Nat} {v_l : Value} {l : List EntryD} (h_l : Sl entryR X w v_l l) (hln : l.length ≤ 1099511627776) (hlm : ∀ k, k < l.length → (l.getD k default).Members.length ≤ 17592186044416) (hX : ∀ x ∈ X, x < w.heap.size) : Fnc Try.prog 91 #[v_l] w (fun v w' => ∃ (u0 : Value), v = u0 ∧ Sl entryR X w' u0 (l) ∧ Ext [] w w') := by
  have hle_l := h_l.le'
  refine Fnc.of_WP (n := 26) Try.func91 rfl Try.ntmps91 (by simp) ?_
  intro E hE
  have h0 : E 0 = v_l := hE 0 (by simp)
  clear hE
  refine WP.sr ?_
  refine WL.m rfl ?_
  refine WL.nil ?_
  refine WP.sr ?_
  refine WL.m rfl ?_
  refine WL.nil ?_
  refine WP.seq ?_
  refine WP.sr ?_
  refine WL.m rfl ?_
  refine WL.nil ?_
  refine WP.block ?_
  refine WP.loop (σ := Nat) (fun k E1 w2 => E1 0 = v_l ∧ E1 2 = .slice none 0 0 ∧ E1 4 = .int .i64 ((k : Int)) ∧ Ext [] w w2 ∧ (Owns entryR 90 w.heap.size X w2 (E1 3) (l.take k) ∧ (∀ g, (E1 3).ownBlock = some g → g ∉ X)) ∧ k ≤ l.length) (fun k => l.length - k) (0) ?_ ?_
  · exact ⟨h0, rfl, (int_eq (by omega)), Ext.refl _ _, ⟨(Owns.castE (by rfl) Owns.nil), (nil_block rfl)⟩, (by omega)⟩
  rintro k E1 w2 ⟨h0_3, h2_3, h4_3, hx3, ⟨ho3_3, ho3_3n⟩, hi0_3⟩
  have hx4 : Ext [] w w2 := hx3
  have htk : (l.take k).length ≤ k := List.length_take_le _ _
  refine WP.seq ?_
  refine WP.sr ?_
  refine WL.m rfl ?_
  refine WL.m rfl ?_
  obtain ⟨a5, c6, hv7⟩ := h_l.shape
  refine WL.z (.int .i64 (((l).length : Int))) (V.lenSlice (x := .tmp 7) rfl rfl u25 (Eq.trans (b := v_l) h0_3 hv7)) ?_
  refine WL.z (.bool (decide ((k : Int) < ((l).length : Int)))) (V.cmp (x := .tmp 6) rfl h4_3 rfl rfl) ?_
  refine WL.nil ?_
  refine WP.condp (t := (k : Int) < ((l).length : Int)) rfl (fun hc8 => ?_) (fun hc8 => ?_)
  rotate_left
  · refine WP.exit ?_
    refine WP.sr ?_
    refine WL.m rfl ?_
    refine WL.m rfl ?_
    refine WL.nil ?_
    refine WP.ret ?_
    refine resOf.c1 rfl (v := E1 3) rfl ?_
    exact ⟨E1 3, rfl, (castSl (by exact List.take_of_length_le (by omega)) (Owns.sl' ho3_3 ho3_3n)), hx4⟩
  refine WP.skip ?_
  refine WP.seq ?_
  refine WP.block ?_
  refine WP.sr ?_
  refine WL.m rfl ?_
  refine WL.m rfl ?_
  have hlt17 : k < (l).length := by first | omega | (simp at *; omega)
  obtain ⟨b9, k10, c11, cs12, hv13, hnb14, hr15, hat16⟩ := (h_l.ext (Ext.pre hx4)).get (i := k) (x := (l.getD k default)) (getD_some hlt17 _)
  obtain ⟨v18, rfl, hl19, hk20⟩ := hr15
  obtain ⟨hin21, hin22, hin23⟩ := (show EntryD.InR (l.getD k default) from hk20)
  have hin21 := inK_u64 hin21
  have hin22 := inK_u8 hin22
  have hle24 := hl19.le'
  refine WL.z (.pointer (some ⟨b9, k10 + k * 4, none⟩)) (V.indexAddr (x := .tmp 12) (i := .tmp 13) (m := k) (j := (k : Int)) rfl u25 s90 (Eq.trans (b := v_l) h0_3 hv13) h4_3 rfl hlt17) ?_
  refine WL.z (.agg #[.int .u64 ((l.getD k default).Term), .int .u8 ((l.getD k default).Kind), .string ((l.getD k default).Data), v18]) (V.loadAgg (cs := [.int .u64 ((l.getD k default).Term), .int .u8 ((l.getD k default).Kind), .string ((l.getD k default).Data), v18]) rfl a90 rfl hat16 rfl) ?_
  refine WL.alloc (cs := [.int .u64 (0), .int .u8 (0), .string (ByteArray.mk #[]), .slice none 0 0]) (Sure.none rfl) rfl rfl z90 rfl (fun b25 w26 hx27 he28 hb29 => ?_)
  have ho30 := (Owns.new (b := b25) ho3_3 (by omega)).keep hx27 (by intro g hg hm; simp at hm) (by simp)
  have hno31 : ∀ g, (E1 3).ownBlock = some g → g ∉ (b25 :: X) := fun g hg hm => (List.mem_cons.1 hm).elim (fun h => by have := (ho3_3.lt g hg).2; omega) (fun h => ho3_3n g hg h)
  have hl33 := (Sl.new (b := b25) (by show (1 : Nat) ≠ 0; decide) hl19 (by omega)).ext (Ext.any hx27)
  have hx34 : Ext [b25] _ _ := (Ext.cons hx4).trans (Ext.any hx27)
  have hge_b25_w : w.heap.size ≤ b25 := by have := hx4.size; omega
  refine WL.storeAgg (vs := [.int .u64 ((l.getD k default).Term), .int .u8 ((l.getD k default).Kind), .string ((l.getD k default).Data), v18]) (Sure.none rfl) rfl rfl s90 rfl rfl rfl (by intro u hu; simp only [List.mem_cons, List.not_mem_nil, or_false] at hu; rcases hu with rfl | rfl | rfl | rfl <;> first | rfl | exact Sl.one (by assumption)) hb29 (by show (0 : Nat) + 4 ≤ 4; decide) (fun w35 hs36 hb37 => ?_)
  replace hb37 : Box w35 b25 90 [.int .u64 ((l.getD k default).Term), .int .u8 ((l.getD k default).Kind), .string ((l.getD k default).Data), v18] := hb37
  have hx38 : Ext [b25] w w35 := hx34.trans (hs36.mono (by simp))
  have hx39 : Ext [b25] w26 w35 := (hs36.mono (by simp))
  have ho40 := Owns.keep (Y := [b25]) ho30 (hs36.mono (by simp)) (fun g hg hm => hno31 g hg (mem_pre (O := [b25]) (X := X) hm)) (fun b hb => mem_pre (O := [b25]) (X := X) hb)
  refine WL.nil ?_
  refine WP.sr ?_
  refine WL.lit (R := (intR .i64)) (X := (b25 :: X)) (vs := []) (xs := []) (Sure.none rfl) rfl rfl u22 e3 (by show 0 < (1 : Nat); decide) (by show _ * (1 : Nat) ≤ 1024; decide) rfl rfl rfl (by intro i v x hv hx; match i, hv, hx with | i + 0, hv, _ => simp at hv) (fun v41 w42 hx43 ho44 hlit45 => ?_)
  have hno46 : ∀ g, (v41).ownBlock = some g → g ∉ (b25 :: X) := by intro g hg hm; have h1 := hlit45 g hg; have h2 := (inCons hb37.lt (inMono hX hx38.size)) g hm; omega
  have hsz47 : w.heap.size ≤ w35.heap.size := hx38.size
  have hsz48 : w26.heap.size ≤ w35.heap.size := hx39.size
  have hx49 : Ext [b25] w w42 := hx38.trans (Ext.any (Y := [b25]) hx43)
  have hx50 : Ext [b25] w26 w42 := hx39.trans (Ext.any (Y := [b25]) hx43)
  have hx51 : Ext [b25] w35 w42 := (Ext.any (Y := [b25]) hx43)
  have hb52 := hb37.ext hx43 (by simp)
  have ho54 := ho44.low (B' := w35.heap.size) (Nat.le_refl _)
  refine WL.f (v18) fl90_3 rfl p22 (hb52.cell rfl) ?_
  refine WL.appendOwn (R := (intR .i64)) (X := (b25 :: X)) (B := w35.heap.size) (xs := []) (ys := (l.getD k default).Members) (Sure.none rfl) rfl rfl u22 e3 rfl (by show 0 < (1 : Nat); decide) rfl rfl ho54 (hl33.ext (Ext.pre hx50)) (fun g hg => (Sl.new (by show (1 : Nat) ≠ 0; decide) hl33 (Nat.le_trans hsz48 (ho54.lt g hg).1)).ext (Ext.cons (Ext.pre hx50))) hx51.size (by first | (have := hlm k (by omega); simp only [List.length_cons, List.length_nil]; omega) | (simp only [List.length_cons, List.length_nil]; omega)) (by first | (have := hlm k (by omega); simp only [List.length_cons, List.length_nil, maxLen]; omega) | (simp only [List.length_cons, List.length_nil, maxLen]; omega)) (fun v55 w56 ho57 hg58 hf59 => ?_)
  have hno60 := after_no hf59 hno46 (inCons hb52.lt (inMono hX hx49.size))
  have hx61 := Ext.ownB (hx49) hg58 (fun k hk => (Owns.lt ho54 k hk).1) hsz47
  have hx62 := Ext.ownB (hx50) hg58 (fun k hk => (Owns.lt ho54 k hk).1) hsz48
  have hx63 := Ext.ownB (hx51) hg58 (fun k hk => (Owns.lt ho54 k hk).1) (Nat.le_refl _)
  have hb64 := hb52.grown hg58 (fun g hg e => hno46 g hg (by simp [e]))
  have ho65 := Owns.keep (Y := [b25]) ho40 (hx63) (fun g hg hm => hno31 g hg (mem_pre (O := [b25]) (X := X) hm)) (fun b hb => mem_pre (O := [b25]) (X := X) hb)
  have ho57 := ho57.castE (List.nil_append _)
  refine WL.z (.pointer (some ⟨b25, 3, none⟩)) (V.fieldAddr rfl fl90_3 rfl) ?_
  have hl66 := Owns.sl' ho57 hno60
  have hf67 := Owns.far (T := E1 3) (flat_int _) ho57 hno60 (fun g hg => (ho40.lt g hg).2)
  refine WL.store (Sure.none rfl) rfl rfl s22 rfl rfl hl66.one hb64 (by show (3 : Nat) < 4; decide) (fun w68 hs69 hb70 => ?_)
  replace hb70 : Box w68 b25 90 [.int .u64 ((l.getD k default).Term), .int .u8 ((l.getD k default).Kind), .string ((l.getD k default).Data), v55] := hb70
  have hx71 : Ext [b25] w w68 := hx61.trans (hs69.mono (by simp))
  have hx72 : Ext [b25] w26 w68 := hx62.trans (hs69.mono (by simp))
  have hx73 : Ext [b25] w35 w68 := hx63.trans (hs69.mono (by simp))
  have hx74 : Ext [b25] w56 w68 := (hs69.mono (by simp))
  have ho75 := Owns.keep (Y := [b25]) ho65 (hs69.mono (by simp)) (fun g hg hm => hno31 g hg (mem_pre (O := [b25]) (X := X) hm)) (fun b hb => mem_pre (O := [b25]) (X := X) hb)
  refine WL.nil ?_
  refine WP.region ?_
  refine WL.m rfl ?_
  refine WL.z (.agg #[.int .u64 ((l.getD k default).Term), .int .u8 ((l.getD k default).Kind), .string ((l.getD k default).Data), v55]) (V.loadAgg (cs := [.int .u64 ((l.getD k default).Term), .int .u8 ((l.getD k default).Kind), .string ((l.getD k default).Data), v55]) rfl a90 rfl (At.box hb70) rfl) ?_
  refine WL.lit (R := entryR) (X := (avoid (E1 3) (b25 :: X))) (vs := [.agg #[.int .u64 ((l.getD k default).Term), .int .u8 ((l.getD k default).Kind), .string ((l.getD k default).Data), v55]]) (xs := [({ Term := (l.getD k default).Term, Kind := (l.getD k default).Kind, Data := (l.getD k default).Data, Members := ((l.getD k default).Members) } : EntryD)]) (Sure.none rfl) rfl rfl u25 e90 (by show 0 < (4 : Nat); decide) (by show _ * (4 : Nat) ≤ 1024; decide) rfl rfl rfl (by intro i v x hv hx; match i, hv, hx with | 0, rfl, rfl => exact ⟨v55, rfl, (hf67.ext (Ext.avoid hx74)), ⟨(inK_u64' (n := (l.getD k default).Term) (by omega)), (inK_u8' (n := (l.getD k default).Kind) (by omega)), (by show ((l.getD k default).Data).size ≤ maxLen; omega)⟩⟩ | i + 1, hv, _ => simp at hv) (fun v76 w77 hx78 ho79 hlit80 => ?_)
  have hno81 : ∀ g, (v76).ownBlock = some g → g ∉ (b25 :: X) := by intro g hg hm; have h1 := hlit80 g hg; have h2 := (inCons hb70.lt (inMono hX hx71.size)) g hm; omega
  have hsz82 : w.heap.size ≤ w68.heap.size := hx71.size
  have hsz83 : w26.heap.size ≤ w68.heap.size := hx72.size
  have hsz84 : w35.heap.size ≤ w68.heap.size := hx73.size
  have hsz85 : w56.heap.size ≤ w68.heap.size := hx74.size
  have hx86 : Ext [b25] w w77 := hx71.trans (Ext.any (Y := [b25]) hx78)
  have hb91 := hb70.ext hx78 (by simp)
  have ho92 := ho75.keep hx78 (by intro g hg hm; simp at hm) (by simp)
  have ho93 := ho79.low (B' := w68.heap.size) (Nat.le_refl _)
  have hno94 := avoid_no (T := E1 3) (n := w68.heap.size) (fun g hg => Nat.le_of_eq (hlit80 g hg).symm) (fun g hg => (ho75.lt g hg).2) hno81
  refine WL.appendOwn (R := entryR) (X := (b25 :: X)) (B := w.heap.size) (xs := l.take k) (ys := [({ Term := (l.getD k default).Term, Kind := (l.getD k default).Kind, Data := (l.getD k default).Data, Members := ((l.getD k default).Members) } : EntryD)]) (Sure.none rfl) rfl rfl u25 e90 rfl (by show 0 < (4 : Nat); decide) rfl rfl ho92 (Owns.sl' (Owns.mono ho93 (fun b hb => avoid_mem hb)) hno81) (fun g hg => avoid_far (Owns.sl' ho93 hno94) hg) hx86.size (by first | (have := hlm k (by omega); simp only [List.length_cons, List.length_nil]; omega) | (simp only [List.length_cons, List.length_nil]; omega)) (by first | (have := hlm k (by omega); simp only [List.length_cons, List.length_nil, maxLen]; omega) | (simp only [List.length_cons, List.length_nil, maxLen]; omega)) (fun v95 w96 ho97 hg98 hf99 => ?_)
  have hno100 := after_no hf99 hno31 (inCons hb91.lt (inMono hX hx86.size))
  have hx101 := Ext.ownB (hx86) hg98 (fun k hk => (Owns.lt ho92 k hk).1) (Nat.le_refl _)
  refine WL.m rfl ?_
  refine WL.nil ?_
  refine WP.region ?_
  refine WL.m rfl ?_
  refine WL.z (.int .i64 ((k : Int) + 1)) (V.arith (x := .tmp 10) rfl h4_3 rfl rfl (wrap_i64 (by omega) (by omega))) ?_
  refine WL.m rfl ?_
  refine WL.nil ?_
  exact ⟨k + 1, ⟨h0_3, h2_3, (int_eq (by omega)), (Ext.drop hx101 hge_b25_w), ⟨(Owns.castE (by exact take_step (by omega)) (Owns.base (O := [b25]) ho97)), (base_no (O := [b25]) hno100)⟩, (by omega)⟩, (by omega)⟩

end Go.Proofs.Ytbpamkbegggeoaa.T
