import Derived.Test.YtbpamkbegggeoaaV23
import Derived.Test.YtbpamkbegggeoaaW13
import Derived.Test.YtbpamkbegggeoaaVA
namespace Go.Proofs.Ytbpamkbegggeoaa.T
open W Go.RowKit
set_option maxRecDepth 100000
set_option maxHeartbeats 400000

theorem sameReadB_refl (a : ReadD) : sameReadB a a = true := by simp [sameReadB, eqB_refl ieq_refl]
theorem sameFolB_refl (a : FollowD) : sameFolB a a = true := by simp [sameFolB]
theorem samePeerB_refl (a : PeerD) : samePeerB a a = true := by simp [samePeerB, seqB_refl, eqB_refl ieq_refl, eqB_refl sameEntB_refl, eqB_refl sameFolB_refl, eqB_refl sameReadB_refl]
theorem samePeer_no {a : PeerD} (h : samePeerB a a = false) : False := by rw [samePeerB_refl] at h; cases h
theorem law_e {b : Bool} (h1 : (if b = true then (0 : Int) else 2) ≠ 0) (h2 : (if b = true then (0 : Int) else 2) ≠ 2) : False := by cases b <;> simp_all
theorem law_p {p : PeerD} (hp : p.InR) (h : (decide ((if vmayB p = true then (0 : Int) else 2) = 0) == refMayB p) = false) : False := by
  rw [vmay_eq p hp] at h; revert h; cases refMayB p <;> decide
theorem law_m {m : MsgD} (hm : m.InR) (h : (decide ((if mayMsgB m = true then (0 : Int) else 2) = 0) == refMayMsgB m) = false) : False := by
  rw [refMay_eq m hm] at h; revert h; cases mayMsgB m <;> decide
theorem refMayB_base {p : PeerD} (h : refMayB p = true) : p.Base ≤ 4611686018427387904 := by
  simp only [refMayB, Bool.and_eq_true] at h; exact refM3_base h.2.2.1

set_option maxHeartbeats 16000000 in
theorem law_VoteForms {w : World} {X : List Nat} {p : PeerD} {c_p : List Value} (h_p : peerR.rd X w c_p p) {m : MsgD} {c_m : List Value} (h_m : msgR.rd X w c_m m) (i : Int) (hX : ∀ x ∈ X, x < w.heap.size) (hF : Fits p) (hi : 0 ≤ i ∧ i < 18446744073709551616) : Fnc Try.prog 3 #[.agg c_p.toArray, .agg c_m.toArray, .int .u64 (i)] w (fun v w' => v = .bool (true) ∧ Ext [] w w') := by
  obtain ⟨v1, v3, v5, v7, v9, v11, rfl, hl2, hl4, hl6, hl8, hl10, hl12, hk13⟩ := h_p
  obtain ⟨hin14, hin15, hin16, hin17, hin18, hin19, hin20, hin21, hin22, hin23, hin24, hin25⟩ := (show PeerD.InR p from hk13)
  have hin14 := inK_i64 hin14
  have hin15 := inK_u64 hin15
  have hin16 := inK_i64 hin16
  have hin17 := inK_u8 hin17
  have hin18 := inK_i64 hin18
  have hin19 := inK_u64 hin19
  have hin20 := inK_u64 hin20
  have hin22 := inK_u64 hin22
  have hin23 := inK_i64 hin23
  have hin24 := inK_i64 hin24
  have hin25 := inK_u64 hin25
  have hle26 := hl2.le'
  have hle27 := hl4.le'
  have hle28 := hl6.le'
  have hle29 := hl8.le'
  have hle30 := hl10.le'
  have hle31 := hl12.le'
  obtain ⟨v32, v34, rfl, hl33, hl35, hk36⟩ := h_m
  obtain ⟨hin37, hin38, hin39, hin40, hin41, hin42, hin43, hin44, hin45⟩ := (show MsgD.InR m from hk36)
  have hin37 := inK_u8 hin37
  have hin38 := inK_i64 hin38
  have hin39 := inK_i64 hin39
  have hin40 := inK_u64 hin40
  have hin41 := inK_u64 hin41
  have hin42 := inK_u64 hin42
  have hin43 := inK_u64 hin43
  have hin44 := inK_u64 hin44
  have hle46 := hl33.le'
  have hle47 := hl35.le'
  have hlI : lastI p = p.Base + (p.Log.length : Int) := rfl
  have hpr : PeerD.InR p := by assumption
  have hmr : MsgD.InR m := by assumption
  have hfl := hF.log
  refine Fnc.of_WP (n := 149) Try.func3 rfl Try.ntmps3 (by simp) ?_
  intro E hE
  have h0 : E 0 = .agg #[.int .i64 (p.Id), v1, .int .u64 (p.Term), .int .i64 (p.Vote), .int .u8 (p.Role), .int .i64 (p.Lead), .int .u64 (p.Base), .int .u64 (p.BaseTerm), v3, .string (p.Snap), v5, .int .u64 (p.Commit), .int .i64 (p.Idle), .int .i64 (p.Wait), v7, v9, .int .u64 (p.Round), v11] := hE 0 (by simp)
  have h1 : E 1 = .agg #[.int .u8 (m.Kind), .int .i64 (m.From), .int .i64 (m.To), .int .u64 (m.Term), .int .u64 (m.Index), .int .u64 (m.LogTerm), .int .u64 (m.Commit), .int .u64 (m.Round), .bool (m.Ok), v32, v34, .string (m.Snap)] := hE 1 (by simp)
  have h2 : E 2 = .int .u64 (i) := hE 2 (by simp)
  clear hE
  refine WP.sr ?_
  refine WL.box (x := .tmp 0) (cs := [.int .i64 (p.Id), v1, .int .u64 (p.Term), .int .i64 (p.Vote), .int .u8 (p.Role), .int .i64 (p.Lead), .int .u64 (p.Base), .int .u64 (p.BaseTerm), v3, .string (p.Snap), v5, .int .u64 (p.Commit), .int .i64 (p.Idle), .int .i64 (p.Wait), v7, v9, .int .u64 (p.Round), v11]) (Sure.none rfl) rfl rfl h0 rfl (fun b48 w49 hx50 he51 hb52 => ?_)
  have hl53 := (Sl.new (b := b48) (by show (1 : Nat) ≠ 0; decide) hl2 (by omega)).ext (Ext.any hx50)
  have hl54 := (Sl.new (b := b48) (by show (1 : Nat) ≠ 0; decide) hl4 (by omega)).ext (Ext.any hx50)
  have hl55 := (Sl.new (b := b48) (by show (4 : Nat) ≠ 0; decide) hl6 (by omega)).ext (Ext.any hx50)
  have hl56 := (Sl.new (b := b48) (by show (1 : Nat) ≠ 0; decide) hl8 (by omega)).ext (Ext.any hx50)
  have hl57 := (Sl.new (b := b48) (by show (3 : Nat) ≠ 0; decide) hl10 (by omega)).ext (Ext.any hx50)
  have hl58 := (Sl.new (b := b48) (by show (3 : Nat) ≠ 0; decide) hl12 (by omega)).ext (Ext.any hx50)
  have hl59 := (Sl.new (b := b48) (by show (4 : Nat) ≠ 0; decide) hl33 (by omega)).ext (Ext.any hx50)
  have hl60 := (Sl.new (b := b48) (by show (1 : Nat) ≠ 0; decide) hl35 (by omega)).ext (Ext.any hx50)
  have hx61 : Ext [b48] _ _ := (Ext.refl _ _).trans (Ext.any hx50)
  have hge_b48_w : w.heap.size ≤ b48 := by have := Nat.le_refl w.heap.size; omega
  refine WL.box (x := .tmp 1) (cs := [.int .u8 (m.Kind), .int .i64 (m.From), .int .i64 (m.To), .int .u64 (m.Term), .int .u64 (m.Index), .int .u64 (m.LogTerm), .int .u64 (m.Commit), .int .u64 (m.Round), .bool (m.Ok), v32, v34, .string (m.Snap)]) (Sure.none rfl) rfl rfl h1 rfl (fun b62 w63 hx64 he65 hb66 => ?_)
  have hlt_b48_b62 : b48 < b62 := by have := hb52.lt; omega
  have hb67 := hb52.ext hx64 (by simp)
  have hl68 := (Sl.new (b := b62) (by show (1 : Nat) ≠ 0; decide) hl53 (by omega)).ext (Ext.any hx64)
  have hl69 := (Sl.new (b := b62) (by show (1 : Nat) ≠ 0; decide) hl54 (by omega)).ext (Ext.any hx64)
  have hl70 := (Sl.new (b := b62) (by show (4 : Nat) ≠ 0; decide) hl55 (by omega)).ext (Ext.any hx64)
  have hl71 := (Sl.new (b := b62) (by show (1 : Nat) ≠ 0; decide) hl56 (by omega)).ext (Ext.any hx64)
  have hl72 := (Sl.new (b := b62) (by show (3 : Nat) ≠ 0; decide) hl57 (by omega)).ext (Ext.any hx64)
  have hl73 := (Sl.new (b := b62) (by show (3 : Nat) ≠ 0; decide) hl58 (by omega)).ext (Ext.any hx64)
  have hl74 := (Sl.new (b := b62) (by show (4 : Nat) ≠ 0; decide) hl59 (by omega)).ext (Ext.any hx64)
  have hl75 := (Sl.new (b := b62) (by show (1 : Nat) ≠ 0; decide) hl60 (by omega)).ext (Ext.any hx64)
  have hx76 : Ext [b62, b48] _ _ := (Ext.cons hx61).trans (Ext.any hx64)
  have hge_b62_w : w.heap.size ≤ b62 := by have := hx61.size; omega
  refine WL.m rfl ?_
  refine WL.nil ?_
  refine WP.seq ?_
  refine WP.sr ?_
  refine WL.z (.agg #[.int .i64 (p.Id), v1, .int .u64 (p.Term), .int .i64 (p.Vote), .int .u8 (p.Role), .int .i64 (p.Lead), .int .u64 (p.Base), .int .u64 (p.BaseTerm), v3, .string (p.Snap), v5, .int .u64 (p.Commit), .int .i64 (p.Idle), .int .i64 (p.Wait), v7, v9, .int .u64 (p.Round), v11]) (V.loadAgg (cs := [.int .i64 (p.Id), v1, .int .u64 (p.Term), .int .i64 (p.Vote), .int .u8 (p.Role), .int .i64 (p.Lead), .int .u64 (p.Base), .int .u64 (p.BaseTerm), v3, .string (p.Snap), v5, .int .u64 (p.Commit), .int .i64 (p.Idle), .int .i64 (p.Wait), v7, v9, .int .u64 (p.Round), v11]) rfl a29 rfl (At.box hb67) rfl) ?_
  refine WL.c (Sure.none rfl) rfl (C.call1 rfl cl7 rfl) (Fnc.mono (law_small (p := p) ⟨v1, v3, v5, v7, v9, v11, rfl, hl68, hl69, hl70, hl71, hl72, hl73, hk13⟩) ?_)
  rintro _ w77 ⟨rfl, hx78⟩
  have hx79 : Ext [b62, b48] w w77 := hx76.trans (Ext.any (Y := [b62, b48]) hx78)
  have hx80 : Ext [b62, b48] w63 w77 := (Ext.any (Y := [b62, b48]) hx78)
  have hb81 := hb67.ext hx78 (by simp)
  have hb82 := hb66.ext hx78 (by simp)
  refine WL.z (.bool (!(smallB p))) (V.not rfl rfl) ?_
  refine WL.vbn (c := smallB p) (Sure.none rfl) rfl (V.move rfl rfl) (fun hc83 => ?_) (fun hc83 => ?_)
  · refine WL.skips [(23, some true)] [(28, some true)] (kc (some true) rfl kn) (by kernel_rfl) (fun E84 hK85 hE86 => ?_)
    refine WP.cond_true (hK85 28 (some true) rfl) ?_
    refine WP.sr ?_
    refine WL.c (Sure.none rfl) rfl (C.call0 rfl cl8 ) (Fnc.mono (law_alive ) ?_)
    rintro _ w87 ⟨rfl, hx88⟩
    have hx89 : Ext [b62, b48] w w87 := hx79.trans (Ext.any (Y := [b62, b48]) hx88)
    refine WL.m rfl ?_
    refine WL.nil ?_
    refine WP.ret ?_
    refine resOf.c1 rfl (v := .bool (true)) rfl ?_
    exact ⟨(bool_eq (by first | rfl | exact (samePeer_no (by assumption)).elim | exact absurd rfl (show ((membersOf p i).length : Int) ≠ ((membersOf p i).length : Int) by assumption))), ((hx89).done (geCons hge_b62_w (geCons hge_b48_w geNil)))⟩
  refine WL.fy (v32) rfl fl32_9 rfl p25 (hb82.cell rfl) ?_
  obtain ⟨a94, c95, hv96⟩ := hl74.shape
  refine WL.y (.int .i64 (((m.Entries).length : Int))) rfl (V.lenSlice rfl rfl u25 (Eq.trans (b := v32) rfl hv96)) ?_
  refine WL.y (.bool (decide (((m.Entries).length : Int) > 60))) rfl (V.cmp rfl rfl rfl rfl) ?_
  refine WL.k (a := false) rfl rfl ?_
  refine WL.nil ?_
  refine WP.condp (t := ((m.Entries).length : Int) > 60) rfl (fun hc97 => ?_) (fun hc97 => ?_)
  · refine WP.sr ?_
    refine WL.c (Sure.none rfl) rfl (C.call0 rfl cl8 ) (Fnc.mono (law_alive ) ?_)
    rintro _ w98 ⟨rfl, hx99⟩
    have hx100 : Ext [b62, b48] w w98 := hx79.trans (Ext.any (Y := [b62, b48]) hx99)
    refine WL.m rfl ?_
    refine WL.nil ?_
    refine WP.ret ?_
    refine resOf.c1 rfl (v := .bool (true)) rfl ?_
    exact ⟨(bool_eq (by first | rfl | exact (samePeer_no (by assumption)).elim | exact absurd rfl (show ((membersOf p i).length : Int) ≠ ((membersOf p i).length : Int) by assumption))), ((hx100).done (geCons hge_b62_w (geCons hge_b48_w geNil)))⟩
  refine WP.skip ?_
  refine WP.sr ?_
  refine WL.z (.agg #[.int .i64 (p.Id), v1, .int .u64 (p.Term), .int .i64 (p.Vote), .int .u8 (p.Role), .int .i64 (p.Lead), .int .u64 (p.Base), .int .u64 (p.BaseTerm), v3, .string (p.Snap), v5, .int .u64 (p.Commit), .int .i64 (p.Idle), .int .i64 (p.Wait), v7, v9, .int .u64 (p.Round), v11]) (V.loadAgg (cs := [.int .i64 (p.Id), v1, .int .u64 (p.Term), .int .i64 (p.Vote), .int .u8 (p.Role), .int .i64 (p.Lead), .int .u64 (p.Base), .int .u64 (p.BaseTerm), v3, .string (p.Snap), v5, .int .u64 (p.Commit), .int .i64 (p.Idle), .int .i64 (p.Wait), v7, v9, .int .u64 (p.Round), v11]) rfl a29 rfl (At.box hb81) rfl) ?_
  refine WL.c (Sure.none rfl) rfl (C.call1 rfl cl9 rfl) (Fnc.mono (law_Own (p := p) ⟨v1, v3, v5, v7, v9, v11, rfl, (hl68.ext (Ext.pre hx80)), (hl69.ext (Ext.pre hx80)), (hl70.ext (Ext.pre hx80)), (hl71.ext (Ext.pre hx80)), (hl72.ext (Ext.pre hx80)), (hl73.ext (Ext.pre hx80)), hk13⟩ (by assumption) (X := (b62 :: (b48 :: X))) (inCons hb82.lt (inCons hb81.lt (inMono hX hx79.size)))) ?_)
  rintro _ w105 ⟨cs107, rfl, hr108, hx106⟩
  have hx109 : Ext [b62, b48] w w105 := hx79.trans (Ext.any (Y := [b62, b48]) hx106)
  have hx110 : Ext [b62, b48] w63 w105 := hx80.trans (Ext.any (Y := [b62, b48]) hx106)
  have hb112 := hb81.ext hx106 (by simp)
  have hb113 := hb82.ext hx106 (by simp)
  obtain ⟨v114, v116, v118, v120, v122, v124, rfl, hl115, hl117, hl119, hl121, hl123, hl125, hk126⟩ := hr108
  obtain ⟨hin127, hin128, hin129, hin130, hin131, hin132, hin133, hin134, hin135, hin136, hin137, hin138⟩ := (show PeerD.InR p from hk126)
  have hin127 := inK_i64 hin127
  have hin128 := inK_u64 hin128
  have hin129 := inK_i64 hin129
  have hin130 := inK_u8 hin130
  have hin131 := inK_i64 hin131
  have hin132 := inK_u64 hin132
  have hin133 := inK_u64 hin133
  have hin135 := inK_u64 hin135
  have hin136 := inK_i64 hin136
  have hin137 := inK_i64 hin137
  have hin138 := inK_u64 hin138
  have hle139 := hl115.le'
  have hle140 := hl117.le'
  have hle141 := hl119.le'
  have hle142 := hl121.le'
  have hle143 := hl123.le'
  have hle144 := hl125.le'
  refine WL.alloc (cs := [.int .i64 (0), .slice none 0 0, .int .u64 (0), .int .i64 (0), .int .u8 (0), .int .i64 (0), .int .u64 (0), .int .u64 (0), .slice none 0 0, .string (ByteArray.mk #[]), .slice none 0 0, .int .u64 (0), .int .i64 (0), .int .i64 (0), .slice none 0 0, .slice none 0 0, .int .u64 (0), .slice none 0 0]) (Sure.none rfl) rfl rfl z29 rfl (fun b145 w146 hx147 he148 hb149 => ?_)
  have hlt_b48_b145 : b48 < b145 := by have := hb112.lt; omega
  have hb150 := hb112.ext hx147 (by simp)
  have hlt_b62_b145 : b62 < b145 := by have := hb113.lt; omega
  have hb151 := hb113.ext hx147 (by simp)
  have hl152 := (Sl.new (b := b145) (by show (1 : Nat) ≠ 0; decide) (hl68.ext (Ext.pre hx110)) (by omega)).ext (Ext.any hx147)
  have hl153 := (Sl.new (b := b145) (by show (1 : Nat) ≠ 0; decide) (hl69.ext (Ext.pre hx110)) (by omega)).ext (Ext.any hx147)
  have hl154 := (Sl.new (b := b145) (by show (4 : Nat) ≠ 0; decide) (hl70.ext (Ext.pre hx110)) (by omega)).ext (Ext.any hx147)
  have hl155 := (Sl.new (b := b145) (by show (1 : Nat) ≠ 0; decide) (hl71.ext (Ext.pre hx110)) (by omega)).ext (Ext.any hx147)
  have hl156 := (Sl.new (b := b145) (by show (3 : Nat) ≠ 0; decide) (hl72.ext (Ext.pre hx110)) (by omega)).ext (Ext.any hx147)
  have hl157 := (Sl.new (b := b145) (by show (3 : Nat) ≠ 0; decide) (hl73.ext (Ext.pre hx110)) (by omega)).ext (Ext.any hx147)
  have hl158 := (Sl.new (b := b145) (by show (4 : Nat) ≠ 0; decide) (hl74.ext (Ext.pre hx110)) (by omega)).ext (Ext.any hx147)
  have hl159 := (Sl.new (b := b145) (by show (1 : Nat) ≠ 0; decide) (hl75.ext (Ext.pre hx110)) (by omega)).ext (Ext.any hx147)
  have hl160 := (Sl.new (b := b145) (by show (1 : Nat) ≠ 0; decide) hl115 (by omega)).ext (Ext.any hx147)
  have hl161 := (Sl.new (b := b145) (by show (1 : Nat) ≠ 0; decide) hl117 (by omega)).ext (Ext.any hx147)
  have hl162 := (Sl.new (b := b145) (by show (4 : Nat) ≠ 0; decide) hl119 (by omega)).ext (Ext.any hx147)
  have hl163 := (Sl.new (b := b145) (by show (1 : Nat) ≠ 0; decide) hl121 (by omega)).ext (Ext.any hx147)
  have hl164 := (Sl.new (b := b145) (by show (3 : Nat) ≠ 0; decide) hl123 (by omega)).ext (Ext.any hx147)
  have hl165 := (Sl.new (b := b145) (by show (3 : Nat) ≠ 0; decide) hl125 (by omega)).ext (Ext.any hx147)
  have hx166 : Ext [b145, b62, b48] _ _ := (Ext.cons hx109).trans (Ext.any hx147)
  have hge_b145_w : w.heap.size ≤ b145 := by have := hx109.size; omega
  refine WL.storeAgg (vs := [.int .i64 (p.Id), v114, .int .u64 (p.Term), .int .i64 (p.Vote), .int .u8 (p.Role), .int .i64 (p.Lead), .int .u64 (p.Base), .int .u64 (p.BaseTerm), v116, .string (p.Snap), v118, .int .u64 (p.Commit), .int .i64 (p.Idle), .int .i64 (p.Wait), v120, v122, .int .u64 (p.Round), v124]) (Sure.none rfl) rfl rfl s29 rfl rfl rfl (by intro u hu; simp only [List.mem_cons, List.not_mem_nil, or_false] at hu; rcases hu with rfl | rfl | rfl | rfl | rfl | rfl | rfl | rfl | rfl | rfl | rfl | rfl | rfl | rfl | rfl | rfl | rfl | rfl <;> first | rfl | exact Sl.one (by assumption)) hb149 (by show (0 : Nat) + 18 ≤ 18; decide) (fun w167 hs168 hb169 => ?_)
  replace hb169 : Box w167 b145 29 [.int .i64 (p.Id), v114, .int .u64 (p.Term), .int .i64 (p.Vote), .int .u8 (p.Role), .int .i64 (p.Lead), .int .u64 (p.Base), .int .u64 (p.BaseTerm), v116, .string (p.Snap), v118, .int .u64 (p.Commit), .int .i64 (p.Idle), .int .i64 (p.Wait), v120, v122, .int .u64 (p.Round), v124] := hb169
  have hb170 := hb150.ext hs168 (by simp; omega)
  have hb171 := hb151.ext hs168 (by simp; omega)
  have hx172 : Ext [b145, b62, b48] w w167 := hx166.trans (hs168.mono (by simp))
  have hx173 : Ext [b145, b62, b48] w146 w167 := (hs168.mono (by simp))
  refine WL.nil ?_
  refine WP.sr ?_
  refine WL.z (.agg #[.int .i64 (p.Id), v1, .int .u64 (p.Term), .int .i64 (p.Vote), .int .u8 (p.Role), .int .i64 (p.Lead), .int .u64 (p.Base), .int .u64 (p.BaseTerm), v3, .string (p.Snap), v5, .int .u64 (p.Commit), .int .i64 (p.Idle), .int .i64 (p.Wait), v7, v9, .int .u64 (p.Round), v11]) (V.loadAgg (cs := [.int .i64 (p.Id), v1, .int .u64 (p.Term), .int .i64 (p.Vote), .int .u8 (p.Role), .int .i64 (p.Lead), .int .u64 (p.Base), .int .u64 (p.BaseTerm), v3, .string (p.Snap), v5, .int .u64 (p.Commit), .int .i64 (p.Idle), .int .i64 (p.Wait), v7, v9, .int .u64 (p.Round), v11]) rfl a29 rfl (At.box hb170) rfl) ?_
  refine WL.c (Sure.none rfl) rfl (C.call1 rfl cl10 rfl) (Fnc.mono (ref_May (p := p) ⟨v1, v3, v5, v7, v9, v11, rfl, (hl152.ext (Ext.pre hx173)), (hl153.ext (Ext.pre hx173)), (hl154.ext (Ext.pre hx173)), (hl155.ext (Ext.pre hx173)), (hl156.ext (Ext.pre hx173)), (hl157.ext (Ext.pre hx173)), hk13⟩ (inCons hb169.lt (inCons hb171.lt (inCons hb170.lt (inMono hX hx172.size)))) (by assumption)) ?_)
  rintro _ w174 ⟨rfl, hx175⟩
  have hx176 : Ext [b145, b62, b48] w w174 := hx172.trans (Ext.any (Y := [b145, b62, b48]) hx175)
  have hx177 : Ext [b145, b62, b48] w146 w174 := hx173.trans (Ext.any (Y := [b145, b62, b48]) hx175)
  have hb179 := hb170.ext hx175 (by simp)
  have hb180 := hb171.ext hx175 (by simp)
  have hb181 := hb169.ext hx175 (by simp)
  refine WL.m rfl ?_
  refine WL.nil ?_
  refine WP.seq ?_
  have hsz184 : w.heap.size ≤ w174.heap.size := hx176.size
  refine WP.seq_cut (fun E182 w183 => E182 0 = .agg #[.int .i64 (p.Id), v1, .int .u64 (p.Term), .int .i64 (p.Vote), .int .u8 (p.Role), .int .i64 (p.Lead), .int .u64 (p.Base), .int .u64 (p.BaseTerm), v3, .string (p.Snap), v5, .int .u64 (p.Commit), .int .i64 (p.Idle), .int .i64 (p.Wait), v7, v9, .int .u64 (p.Round), v11] ∧ E182 1 = .agg #[.int .u8 (m.Kind), .int .i64 (m.From), .int .i64 (m.To), .int .u64 (m.Term), .int .u64 (m.Index), .int .u64 (m.LogTerm), .int .u64 (m.Commit), .int .u64 (m.Round), .bool (m.Ok), v32, v34, .string (m.Snap)] ∧ E182 2 = .int .u64 (i) ∧ E182 3 = .pointer (some ⟨b48, 0, none⟩) ∧ E182 4 = .pointer (some ⟨b62, 0, none⟩) ∧ E182 7 = .pointer (some ⟨b145, 0, none⟩) ∧ E182 8 = .bool (refMayB p) ∧ E182 20 = .agg #[.int .i64 (p.Id), v1, .int .u64 (p.Term), .int .i64 (p.Vote), .int .u8 (p.Role), .int .i64 (p.Lead), .int .u64 (p.Base), .int .u64 (p.BaseTerm), v3, .string (p.Snap), v5, .int .u64 (p.Commit), .int .i64 (p.Idle), .int .i64 (p.Wait), v7, v9, .int .u64 (p.Round), v11] ∧ E182 21 = .bool (smallB p) ∧ E182 22 = .bool (!(smallB p)) ∧ E182 23 = .bool (false) ∧ E182 24 = .pointer (some ⟨b62, 9, none⟩) ∧ E182 25 = v32 ∧ E182 26 = .int .i64 (((m.Entries).length : Int)) ∧ E182 27 = .bool (decide (((m.Entries).length : Int) > 60)) ∧ E182 28 = .bool (decide (((m.Entries).length : Int) > 60)) ∧ E182 30 = .agg #[.int .i64 (p.Id), v1, .int .u64 (p.Term), .int .i64 (p.Vote), .int .u8 (p.Role), .int .i64 (p.Lead), .int .u64 (p.Base), .int .u64 (p.BaseTerm), v3, .string (p.Snap), v5, .int .u64 (p.Commit), .int .i64 (p.Idle), .int .i64 (p.Wait), v7, v9, .int .u64 (p.Round), v11] ∧ E182 31 = .agg #[.int .i64 (p.Id), v114, .int .u64 (p.Term), .int .i64 (p.Vote), .int .u8 (p.Role), .int .i64 (p.Lead), .int .u64 (p.Base), .int .u64 (p.BaseTerm), v116, .string (p.Snap), v118, .int .u64 (p.Commit), .int .i64 (p.Idle), .int .i64 (p.Wait), v120, v122, .int .u64 (p.Round), v124] ∧ E182 32 = .agg #[.int .i64 (p.Id), v1, .int .u64 (p.Term), .int .i64 (p.Vote), .int .u8 (p.Role), .int .i64 (p.Lead), .int .u64 (p.Base), .int .u64 (p.BaseTerm), v3, .string (p.Snap), v5, .int .u64 (p.Commit), .int .i64 (p.Idle), .int .i64 (p.Wait), v7, v9, .int .u64 (p.Round), v11] ∧ E182 33 = .bool (refMayB p) ∧ E182 68 = .bool (false) ∧ Ext [b145, b62, b48] w174 w183 ∧ Box w183 b48 29 [.int .i64 (p.Id), v1, .int .u64 (p.Term), .int .i64 (p.Vote), .int .u8 (p.Role), .int .i64 (p.Lead), .int .u64 (p.Base), .int .u64 (p.BaseTerm), v3, .string (p.Snap), v5, .int .u64 (p.Commit), .int .i64 (p.Idle), .int .i64 (p.Wait), v7, v9, .int .u64 (p.Round), v11] ∧ Box w183 b62 32 [.int .u8 (m.Kind), .int .i64 (m.From), .int .i64 (m.To), .int .u64 (m.Term), .int .u64 (m.Index), .int .u64 (m.LogTerm), .int .u64 (m.Commit), .int .u64 (m.Round), .bool (m.Ok), v32, v34, .string (m.Snap)] ∧ Box w183 b145 29 [.int .i64 (p.Id), v114, .int .u64 (p.Term), .int .i64 (p.Vote), .int .u8 (p.Role), .int .i64 (p.Lead), .int .u64 (p.Base), .int .u64 (p.BaseTerm), v116, .string (p.Snap), v118, .int .u64 (p.Commit), .int .i64 (p.Idle), .int .i64 (p.Wait), v120, v122, .int .u64 (p.Round), v124]) ?_ ?_
  · refine WP.quiet mo (by kernel_rfl) ?_
    refine WQ.z (.agg #[.int .i64 (p.Id), v114, .int .u64 (p.Term), .int .i64 (p.Vote), .int .u8 (p.Role), .int .i64 (p.Lead), .int .u64 (p.Base), .int .u64 (p.BaseTerm), v116, .string (p.Snap), v118, .int .u64 (p.Commit), .int .i64 (p.Idle), .int .i64 (p.Wait), v120, v122, .int .u64 (p.Round), v124]) (fun w' hw => V.loadAgg (cs := [.int .i64 (p.Id), v114, .int .u64 (p.Term), .int .i64 (p.Vote), .int .u8 (p.Role), .int .i64 (p.Lead), .int .u64 (p.Base), .int .u64 (p.BaseTerm), v116, .string (p.Snap), v118, .int .u64 (p.Commit), .int .i64 (p.Idle), .int .i64 (p.Wait), v120, v122, .int .u64 (p.Round), v124]) rfl a29 rfl ((At.box hb181).ext hw (by simp)) rfl) ?_
    refine WQ.c (u := .int .i64 (if vmayB p then 0 else 2)) (Sure.none rfl) rfl (fun w' hw => C.call1 rfl cl11 rfl) (fun w' hw => (vote_May (p := p) ⟨v114, v116, v118, v120, v122, v124, rfl, ((hl160.ext (Ext.pre hx177)).ext (Ext.any hw)), ((hl161.ext (Ext.pre hx177)).ext (Ext.any hw)), ((hl162.ext (Ext.pre hx177)).ext (Ext.any hw)), ((hl163.ext (Ext.pre hx177)).ext (Ext.any hw)), ((hl164.ext (Ext.pre hx177)).ext (Ext.any hw)), ((hl165.ext (Ext.pre hx177)).ext (Ext.any hw)), hk126⟩ (inMono (inCons hb181.lt (inCons hb180.lt (inCons hb179.lt (inMono hX hx176.size)))) hw.size) (by assumption))) ?_
    refine WQ.z (.bool (decide ((if vmayB p then 0 else 2) = 0))) (fun w' hw => V.cmp rfl rfl rfl rfl) ?_
    refine WQ.m rfl ?_
    refine WQ.z (.bool (!((decide ((if vmayB p then 0 else 2) = 0)) == (refMayB p)))) (fun w' hw => V.bcmpNe rfl u4 rfl rfl) ?_
    refine WQ.vbn (c := (decide ((if vmayB p then 0 else 2) = 0)) == (refMayB p)) (Sure.none rfl) rfl (fun w' hw => V.move rfl rfl) (fun hc185 => ?_) (fun hc185 => ?_)
    · exact (law_p hpr hc185).elim
    refine WQ.y (.agg #[.int .u8 (m.Kind), .int .i64 (m.From), .int .i64 (m.To), .int .u64 (m.Term), .int .u64 (m.Index), .int .u64 (m.LogTerm), .int .u64 (m.Commit), .int .u64 (m.Round), .bool (m.Ok), v32, v34, .string (m.Snap)]) rfl (fun w' hw => V.loadAgg (cs := [.int .u8 (m.Kind), .int .i64 (m.From), .int .i64 (m.To), .int .u64 (m.Term), .int .u64 (m.Index), .int .u64 (m.LogTerm), .int .u64 (m.Commit), .int .u64 (m.Round), .bool (m.Ok), v32, v34, .string (m.Snap)]) rfl a32 rfl ((At.box hb180).ext hw (by simp)) rfl) ?_
    refine WQ.c (u := .int .i64 (if mayMsgB m then 0 else 2)) (Sure.yes rfl rfl rfl) rfl (fun w' hw => C.call1 rfl cl12 rfl) (fun w' hw => (vote_MayMsg (m := m) ⟨v32, v34, rfl, ((hl158.ext (Ext.pre hx177)).ext (Ext.any hw)), ((hl159.ext (Ext.pre hx177)).ext (Ext.any hw)), hk36⟩)) ?_
    refine WQ.y (.bool (decide ((if mayMsgB m then 0 else 2) = 0))) rfl (fun w' hw => V.cmp rfl rfl rfl rfl) ?_
    refine WQ.y (.agg #[.int .u8 (m.Kind), .int .i64 (m.From), .int .i64 (m.To), .int .u64 (m.Term), .int .u64 (m.Index), .int .u64 (m.LogTerm), .int .u64 (m.Commit), .int .u64 (m.Round), .bool (m.Ok), v32, v34, .string (m.Snap)]) rfl (fun w' hw => V.loadAgg (cs := [.int .u8 (m.Kind), .int .i64 (m.From), .int .i64 (m.To), .int .u64 (m.Term), .int .u64 (m.Index), .int .u64 (m.LogTerm), .int .u64 (m.Commit), .int .u64 (m.Round), .bool (m.Ok), v32, v34, .string (m.Snap)]) rfl a32 rfl ((At.box hb180).ext hw (by simp)) rfl) ?_
    refine WQ.c (u := .bool (refMayMsgB m)) (Sure.yes rfl rfl rfl) rfl (fun w' hw => C.call1 rfl cl13 rfl) (fun w' hw => (ref_MayMsg (m := m) ⟨v32, v34, rfl, ((hl158.ext (Ext.pre hx177)).ext (Ext.any hw)), ((hl159.ext (Ext.pre hx177)).ext (Ext.any hw)), hk36⟩)) ?_
    refine WQ.y (.bool (!((decide ((if mayMsgB m then 0 else 2) = 0)) == (refMayMsgB m)))) rfl (fun w' hw => V.bcmpNe rfl u4 rfl rfl) ?_
    refine WQ.k (a := false) rfl rfl ?_
    refine WQ.vbn (c := (decide ((if mayMsgB m then 0 else 2) = 0)) == (refMayMsgB m)) (Sure.none rfl) rfl (fun w' hw => V.move rfl rfl) (fun hc186 => ?_) (fun hc186 => ?_)
    · exact (law_m hmr hc186).elim
    refine WQ.y (.agg #[.int .i64 (p.Id), v114, .int .u64 (p.Term), .int .i64 (p.Vote), .int .u8 (p.Role), .int .i64 (p.Lead), .int .u64 (p.Base), .int .u64 (p.BaseTerm), v116, .string (p.Snap), v118, .int .u64 (p.Commit), .int .i64 (p.Idle), .int .i64 (p.Wait), v120, v122, .int .u64 (p.Round), v124]) rfl (fun w' hw => V.loadAgg (cs := [.int .i64 (p.Id), v114, .int .u64 (p.Term), .int .i64 (p.Vote), .int .u8 (p.Role), .int .i64 (p.Lead), .int .u64 (p.Base), .int .u64 (p.BaseTerm), v116, .string (p.Snap), v118, .int .u64 (p.Commit), .int .i64 (p.Idle), .int .i64 (p.Wait), v120, v122, .int .u64 (p.Round), v124]) rfl a29 rfl ((At.box hb181).ext hw (by simp)) rfl) ?_
    refine WQ.c (u := .int .i64 (if vmayB p then 0 else 2)) (Sure.yes rfl rfl rfl) rfl (fun w' hw => C.call1 rfl cl11 rfl) (fun w' hw => (vote_May (p := p) ⟨v114, v116, v118, v120, v122, v124, rfl, ((hl160.ext (Ext.pre hx177)).ext (Ext.any hw)), ((hl161.ext (Ext.pre hx177)).ext (Ext.any hw)), ((hl162.ext (Ext.pre hx177)).ext (Ext.any hw)), ((hl163.ext (Ext.pre hx177)).ext (Ext.any hw)), ((hl164.ext (Ext.pre hx177)).ext (Ext.any hw)), ((hl165.ext (Ext.pre hx177)).ext (Ext.any hw)), hk126⟩ (inMono (inCons hb181.lt (inCons hb180.lt (inCons hb179.lt (inMono hX hx176.size)))) hw.size) (by assumption))) ?_
    refine WQ.y (.bool (decide ((if vmayB p then 0 else 2) ≠ 0))) rfl (fun w' hw => V.cmp rfl rfl rfl rfl) ?_
    refine WQ.vbp (c := (if vmayB p then 0 else 2) ≠ 0) (Sure.yes rfl rfl rfl) rfl (fun w' hw => V.move rfl rfl) (fun hc187 => ?_) (fun hc187 => ?_)
    rotate_left
    · refine WQ.s (Shut.no rfl rfl rfl rfl) rfl ?_
      refine WQ.s (Shut.no rfl rfl rfl rfl) rfl ?_
      refine WQ.s (Shut.no rfl rfl rfl rfl) rfl ?_
      refine WQ.ky (a := false) rfl rfl rfl ?_
      refine WQ.k (a := false) rfl rfl ?_
      refine WQ.m rfl ?_
      refine WQ.y (.agg #[.int .i64 (p.Id), v114, .int .u64 (p.Term), .int .i64 (p.Vote), .int .u8 (p.Role), .int .i64 (p.Lead), .int .u64 (p.Base), .int .u64 (p.BaseTerm), v116, .string (p.Snap), v118, .int .u64 (p.Commit), .int .i64 (p.Idle), .int .i64 (p.Wait), v120, v122, .int .u64 (p.Round), v124]) rfl (fun w' hw => V.loadAgg (cs := [.int .i64 (p.Id), v114, .int .u64 (p.Term), .int .i64 (p.Vote), .int .u8 (p.Role), .int .i64 (p.Lead), .int .u64 (p.Base), .int .u64 (p.BaseTerm), v116, .string (p.Snap), v118, .int .u64 (p.Commit), .int .i64 (p.Idle), .int .i64 (p.Wait), v120, v122, .int .u64 (p.Round), v124]) rfl a29 rfl ((At.box hb181).ext hw (by simp)) rfl) ?_
      refine WQ.y (.agg #[.int .i64 (p.Id), v1, .int .u64 (p.Term), .int .i64 (p.Vote), .int .u8 (p.Role), .int .i64 (p.Lead), .int .u64 (p.Base), .int .u64 (p.BaseTerm), v3, .string (p.Snap), v5, .int .u64 (p.Commit), .int .i64 (p.Idle), .int .i64 (p.Wait), v7, v9, .int .u64 (p.Round), v11]) rfl (fun w' hw => V.loadAgg (cs := [.int .i64 (p.Id), v1, .int .u64 (p.Term), .int .i64 (p.Vote), .int .u8 (p.Role), .int .i64 (p.Lead), .int .u64 (p.Base), .int .u64 (p.BaseTerm), v3, .string (p.Snap), v5, .int .u64 (p.Commit), .int .i64 (p.Idle), .int .i64 (p.Wait), v7, v9, .int .u64 (p.Round), v11]) rfl a29 rfl ((At.box hb179).ext hw (by simp)) rfl) ?_
      refine WQ.c (u := .bool (samePeerB p p)) (Sure.yes rfl rfl rfl) rfl (fun w' hw => C.call2 rfl cl14 rfl rfl) (fun w' hw => (ref_Same (a := p) ⟨v114, v116, v118, v120, v122, v124, rfl, ((hl160.ext (Ext.pre hx177)).ext (Ext.any hw)), ((hl161.ext (Ext.pre hx177)).ext (Ext.any hw)), ((hl162.ext (Ext.pre hx177)).ext (Ext.any hw)), ((hl163.ext (Ext.pre hx177)).ext (Ext.any hw)), ((hl164.ext (Ext.pre hx177)).ext (Ext.any hw)), ((hl165.ext (Ext.pre hx177)).ext (Ext.any hw)), hk126⟩ (b := p) ⟨v1, v3, v5, v7, v9, v11, rfl, ((hl152.ext (Ext.pre hx177)).ext (Ext.any hw)), ((hl153.ext (Ext.pre hx177)).ext (Ext.any hw)), ((hl154.ext (Ext.pre hx177)).ext (Ext.any hw)), ((hl155.ext (Ext.pre hx177)).ext (Ext.any hw)), ((hl156.ext (Ext.pre hx177)).ext (Ext.any hw)), ((hl157.ext (Ext.pre hx177)).ext (Ext.any hw)), hk13⟩)) ?_
      refine WQ.y (.bool (!(samePeerB p p))) rfl (fun w' hw => V.not rfl rfl) ?_
      refine WQ.k (a := false) rfl rfl ?_
      refine WQ.vbn (c := samePeerB p p) (Sure.none rfl) rfl (fun w' hw => V.move rfl rfl) (fun hc199 => ?_) (fun hc199 => ?_)
      · exact (samePeer_no hc199).elim
      refine WQ.y (.agg #[.int .i64 (p.Id), v114, .int .u64 (p.Term), .int .i64 (p.Vote), .int .u8 (p.Role), .int .i64 (p.Lead), .int .u64 (p.Base), .int .u64 (p.BaseTerm), v116, .string (p.Snap), v118, .int .u64 (p.Commit), .int .i64 (p.Idle), .int .i64 (p.Wait), v120, v122, .int .u64 (p.Round), v124]) rfl (fun w' hw => V.loadAgg (cs := [.int .i64 (p.Id), v114, .int .u64 (p.Term), .int .i64 (p.Vote), .int .u8 (p.Role), .int .i64 (p.Lead), .int .u64 (p.Base), .int .u64 (p.BaseTerm), v116, .string (p.Snap), v118, .int .u64 (p.Commit), .int .i64 (p.Idle), .int .i64 (p.Wait), v120, v122, .int .u64 (p.Round), v124]) rfl a29 rfl ((At.box hb181).ext hw (by simp)) rfl) ?_
      refine WQ.y (.agg #[.int .i64 (p.Id), v1, .int .u64 (p.Term), .int .i64 (p.Vote), .int .u8 (p.Role), .int .i64 (p.Lead), .int .u64 (p.Base), .int .u64 (p.BaseTerm), v3, .string (p.Snap), v5, .int .u64 (p.Commit), .int .i64 (p.Idle), .int .i64 (p.Wait), v7, v9, .int .u64 (p.Round), v11]) rfl (fun w' hw => V.loadAgg (cs := [.int .i64 (p.Id), v1, .int .u64 (p.Term), .int .i64 (p.Vote), .int .u8 (p.Role), .int .i64 (p.Lead), .int .u64 (p.Base), .int .u64 (p.BaseTerm), v3, .string (p.Snap), v5, .int .u64 (p.Commit), .int .i64 (p.Idle), .int .i64 (p.Wait), v7, v9, .int .u64 (p.Round), v11]) rfl a29 rfl ((At.box hb179).ext hw (by simp)) rfl) ?_
      refine WQ.c (u := .bool (samePeerB p p)) (Sure.yes rfl rfl rfl) rfl (fun w' hw => C.call2 rfl cl15 rfl rfl) (fun w' hw => (vote_Same (a := p) ⟨v114, v116, v118, v120, v122, v124, rfl, ((hl160.ext (Ext.pre hx177)).ext (Ext.any hw)), ((hl161.ext (Ext.pre hx177)).ext (Ext.any hw)), ((hl162.ext (Ext.pre hx177)).ext (Ext.any hw)), ((hl163.ext (Ext.pre hx177)).ext (Ext.any hw)), ((hl164.ext (Ext.pre hx177)).ext (Ext.any hw)), ((hl165.ext (Ext.pre hx177)).ext (Ext.any hw)), hk126⟩ (b := p) ⟨v1, v3, v5, v7, v9, v11, rfl, ((hl152.ext (Ext.pre hx177)).ext (Ext.any hw)), ((hl153.ext (Ext.pre hx177)).ext (Ext.any hw)), ((hl154.ext (Ext.pre hx177)).ext (Ext.any hw)), ((hl155.ext (Ext.pre hx177)).ext (Ext.any hw)), ((hl156.ext (Ext.pre hx177)).ext (Ext.any hw)), ((hl157.ext (Ext.pre hx177)).ext (Ext.any hw)), hk13⟩)) ?_
      refine WQ.y (.bool (!(samePeerB p p))) rfl (fun w' hw => V.not rfl rfl) ?_
      refine WQ.k (a := false) rfl rfl ?_
      refine WQ.nil (fun w200 hq201 => ?_)
      have hx205 : Ext [b145, b62, b48] w174 w200 := (Ext.any (Y := [b145, b62, b48]) hq201)
      have hb206 := hb179.ext hq201 (by simp)
      have hb207 := hb180.ext hq201 (by simp)
      have hb208 := hb181.ext hq201 (by simp)
      exact ⟨h0, h1, h2, rfl, rfl, rfl, rfl, rfl, rfl, rfl, rfl, rfl, rfl, rfl, rfl, rfl, rfl, rfl, rfl, rfl, (bool_eq (by first | rfl | (rw [samePeerB_refl]; rfl))), hx205, hb206, hb207, hb208⟩
    refine WQ.y (.agg #[.int .i64 (p.Id), v114, .int .u64 (p.Term), .int .i64 (p.Vote), .int .u8 (p.Role), .int .i64 (p.Lead), .int .u64 (p.Base), .int .u64 (p.BaseTerm), v116, .string (p.Snap), v118, .int .u64 (p.Commit), .int .i64 (p.Idle), .int .i64 (p.Wait), v120, v122, .int .u64 (p.Round), v124]) rfl (fun w' hw => V.loadAgg (cs := [.int .i64 (p.Id), v114, .int .u64 (p.Term), .int .i64 (p.Vote), .int .u8 (p.Role), .int .i64 (p.Lead), .int .u64 (p.Base), .int .u64 (p.BaseTerm), v116, .string (p.Snap), v118, .int .u64 (p.Commit), .int .i64 (p.Idle), .int .i64 (p.Wait), v120, v122, .int .u64 (p.Round), v124]) rfl a29 rfl ((At.box hb181).ext hw (by simp)) rfl) ?_
    refine WQ.c (u := .int .i64 (if vmayB p then 0 else 2)) (Sure.yes rfl rfl rfl) rfl (fun w' hw => C.call1 rfl cl11 rfl) (fun w' hw => (vote_May (p := p) ⟨v114, v116, v118, v120, v122, v124, rfl, ((hl160.ext (Ext.pre hx177)).ext (Ext.any hw)), ((hl161.ext (Ext.pre hx177)).ext (Ext.any hw)), ((hl162.ext (Ext.pre hx177)).ext (Ext.any hw)), ((hl163.ext (Ext.pre hx177)).ext (Ext.any hw)), ((hl164.ext (Ext.pre hx177)).ext (Ext.any hw)), ((hl165.ext (Ext.pre hx177)).ext (Ext.any hw)), hk126⟩ (inMono (inCons hb181.lt (inCons hb180.lt (inCons hb179.lt (inMono hX hx176.size)))) hw.size) (by assumption))) ?_
    refine WQ.y (.bool (decide ((if vmayB p then 0 else 2) ≠ 2))) rfl (fun w' hw => V.cmp rfl rfl rfl rfl) ?_
    refine WQ.ky (a := true) rfl rfl rfl ?_
    refine WQ.k (a := false) rfl rfl ?_
    refine WQ.vbp (c := (if vmayB p then 0 else 2) ≠ 2) (Sure.none rfl) rfl (fun w' hw => V.move rfl rfl) (fun hc188 => ?_) (fun hc188 => ?_)
    · exact (law_e (by assumption) hc188).elim
    refine WQ.y (.agg #[.int .i64 (p.Id), v114, .int .u64 (p.Term), .int .i64 (p.Vote), .int .u8 (p.Role), .int .i64 (p.Lead), .int .u64 (p.Base), .int .u64 (p.BaseTerm), v116, .string (p.Snap), v118, .int .u64 (p.Commit), .int .i64 (p.Idle), .int .i64 (p.Wait), v120, v122, .int .u64 (p.Round), v124]) rfl (fun w' hw => V.loadAgg (cs := [.int .i64 (p.Id), v114, .int .u64 (p.Term), .int .i64 (p.Vote), .int .u8 (p.Role), .int .i64 (p.Lead), .int .u64 (p.Base), .int .u64 (p.BaseTerm), v116, .string (p.Snap), v118, .int .u64 (p.Commit), .int .i64 (p.Idle), .int .i64 (p.Wait), v120, v122, .int .u64 (p.Round), v124]) rfl a29 rfl ((At.box hb181).ext hw (by simp)) rfl) ?_
    refine WQ.y (.agg #[.int .i64 (p.Id), v1, .int .u64 (p.Term), .int .i64 (p.Vote), .int .u8 (p.Role), .int .i64 (p.Lead), .int .u64 (p.Base), .int .u64 (p.BaseTerm), v3, .string (p.Snap), v5, .int .u64 (p.Commit), .int .i64 (p.Idle), .int .i64 (p.Wait), v7, v9, .int .u64 (p.Round), v11]) rfl (fun w' hw => V.loadAgg (cs := [.int .i64 (p.Id), v1, .int .u64 (p.Term), .int .i64 (p.Vote), .int .u8 (p.Role), .int .i64 (p.Lead), .int .u64 (p.Base), .int .u64 (p.BaseTerm), v3, .string (p.Snap), v5, .int .u64 (p.Commit), .int .i64 (p.Idle), .int .i64 (p.Wait), v7, v9, .int .u64 (p.Round), v11]) rfl a29 rfl ((At.box hb179).ext hw (by simp)) rfl) ?_
    refine WQ.c (u := .bool (samePeerB p p)) (Sure.yes rfl rfl rfl) rfl (fun w' hw => C.call2 rfl cl14 rfl rfl) (fun w' hw => (ref_Same (a := p) ⟨v114, v116, v118, v120, v122, v124, rfl, ((hl160.ext (Ext.pre hx177)).ext (Ext.any hw)), ((hl161.ext (Ext.pre hx177)).ext (Ext.any hw)), ((hl162.ext (Ext.pre hx177)).ext (Ext.any hw)), ((hl163.ext (Ext.pre hx177)).ext (Ext.any hw)), ((hl164.ext (Ext.pre hx177)).ext (Ext.any hw)), ((hl165.ext (Ext.pre hx177)).ext (Ext.any hw)), hk126⟩ (b := p) ⟨v1, v3, v5, v7, v9, v11, rfl, ((hl152.ext (Ext.pre hx177)).ext (Ext.any hw)), ((hl153.ext (Ext.pre hx177)).ext (Ext.any hw)), ((hl154.ext (Ext.pre hx177)).ext (Ext.any hw)), ((hl155.ext (Ext.pre hx177)).ext (Ext.any hw)), ((hl156.ext (Ext.pre hx177)).ext (Ext.any hw)), ((hl157.ext (Ext.pre hx177)).ext (Ext.any hw)), hk13⟩)) ?_
    refine WQ.y (.bool (!(samePeerB p p))) rfl (fun w' hw => V.not rfl rfl) ?_
    refine WQ.k (a := false) rfl rfl ?_
    refine WQ.vbn (c := samePeerB p p) (Sure.none rfl) rfl (fun w' hw => V.move rfl rfl) (fun hc189 => ?_) (fun hc189 => ?_)
    · exact (samePeer_no hc189).elim
    refine WQ.y (.agg #[.int .i64 (p.Id), v114, .int .u64 (p.Term), .int .i64 (p.Vote), .int .u8 (p.Role), .int .i64 (p.Lead), .int .u64 (p.Base), .int .u64 (p.BaseTerm), v116, .string (p.Snap), v118, .int .u64 (p.Commit), .int .i64 (p.Idle), .int .i64 (p.Wait), v120, v122, .int .u64 (p.Round), v124]) rfl (fun w' hw => V.loadAgg (cs := [.int .i64 (p.Id), v114, .int .u64 (p.Term), .int .i64 (p.Vote), .int .u8 (p.Role), .int .i64 (p.Lead), .int .u64 (p.Base), .int .u64 (p.BaseTerm), v116, .string (p.Snap), v118, .int .u64 (p.Commit), .int .i64 (p.Idle), .int .i64 (p.Wait), v120, v122, .int .u64 (p.Round), v124]) rfl a29 rfl ((At.box hb181).ext hw (by simp)) rfl) ?_
    refine WQ.y (.agg #[.int .i64 (p.Id), v1, .int .u64 (p.Term), .int .i64 (p.Vote), .int .u8 (p.Role), .int .i64 (p.Lead), .int .u64 (p.Base), .int .u64 (p.BaseTerm), v3, .string (p.Snap), v5, .int .u64 (p.Commit), .int .i64 (p.Idle), .int .i64 (p.Wait), v7, v9, .int .u64 (p.Round), v11]) rfl (fun w' hw => V.loadAgg (cs := [.int .i64 (p.Id), v1, .int .u64 (p.Term), .int .i64 (p.Vote), .int .u8 (p.Role), .int .i64 (p.Lead), .int .u64 (p.Base), .int .u64 (p.BaseTerm), v3, .string (p.Snap), v5, .int .u64 (p.Commit), .int .i64 (p.Idle), .int .i64 (p.Wait), v7, v9, .int .u64 (p.Round), v11]) rfl a29 rfl ((At.box hb179).ext hw (by simp)) rfl) ?_
    refine WQ.c (u := .bool (samePeerB p p)) (Sure.yes rfl rfl rfl) rfl (fun w' hw => C.call2 rfl cl15 rfl rfl) (fun w' hw => (vote_Same (a := p) ⟨v114, v116, v118, v120, v122, v124, rfl, ((hl160.ext (Ext.pre hx177)).ext (Ext.any hw)), ((hl161.ext (Ext.pre hx177)).ext (Ext.any hw)), ((hl162.ext (Ext.pre hx177)).ext (Ext.any hw)), ((hl163.ext (Ext.pre hx177)).ext (Ext.any hw)), ((hl164.ext (Ext.pre hx177)).ext (Ext.any hw)), ((hl165.ext (Ext.pre hx177)).ext (Ext.any hw)), hk126⟩ (b := p) ⟨v1, v3, v5, v7, v9, v11, rfl, ((hl152.ext (Ext.pre hx177)).ext (Ext.any hw)), ((hl153.ext (Ext.pre hx177)).ext (Ext.any hw)), ((hl154.ext (Ext.pre hx177)).ext (Ext.any hw)), ((hl155.ext (Ext.pre hx177)).ext (Ext.any hw)), ((hl156.ext (Ext.pre hx177)).ext (Ext.any hw)), ((hl157.ext (Ext.pre hx177)).ext (Ext.any hw)), hk13⟩)) ?_
    refine WQ.y (.bool (!(samePeerB p p))) rfl (fun w' hw => V.not rfl rfl) ?_
    refine WQ.k (a := false) rfl rfl ?_
    refine WQ.nil (fun w190 hq191 => ?_)
    have hx195 : Ext [b145, b62, b48] w174 w190 := (Ext.any (Y := [b145, b62, b48]) hq191)
    have hb196 := hb179.ext hq191 (by simp)
    have hb197 := hb180.ext hq191 (by simp)
    have hb198 := hb181.ext hq191 (by simp)
    exact ⟨h0, h1, h2, rfl, rfl, rfl, rfl, rfl, rfl, rfl, rfl, rfl, rfl, rfl, rfl, rfl, rfl, rfl, rfl, rfl, (bool_eq (by first | rfl | (rw [samePeerB_refl]; rfl))), hx195, hb196, hb197, hb198⟩
  rintro E182 w183 ⟨h0_209, h1_209, h2_209, h3_209, h4_209, h7_209, h8_209, h20_209, h21_209, h22_209, h23_209, h24_209, h25_209, h26_209, h27_209, h28_209, h30_209, h31_209, h32_209, h33_209, h68_209, hx209, hbb48_209, hbb62_209, hbb145_209⟩
  have hx210 : Ext [b145, b62, b48] w w183 := hx176.trans hx209
  have hx211 : Ext [b145, b62, b48] w146 w183 := hx177.trans hx209
  refine WP.cond_false h68_209 ?_
  refine WP.skip ?_
  refine WP.seq ?_
  refine WP.sr ?_
  refine WL.m rfl ?_
  refine WL.z (.bool (!(refMayB p))) (V.not (x := .tmp 69) rfl h8_209) ?_
  refine WL.nil ?_
  refine WP.condn (t := refMayB p) rfl (fun hc214 => ?_) (fun hc214 => ?_)
  · refine WP.sr ?_
    refine WL.c (Sure.none rfl) rfl (C.call0 rfl cl8 ) (Fnc.mono (law_alive ) ?_)
    rintro _ w215 ⟨rfl, hx216⟩
    have hx217 : Ext [b145, b62, b48] w w215 := hx210.trans (Ext.any (Y := [b145, b62, b48]) hx216)
    refine WL.m rfl ?_
    refine WL.nil ?_
    refine WP.ret ?_
    refine resOf.c1 rfl (v := .bool (true)) rfl ?_
    exact ⟨(bool_eq (by first | rfl | exact (samePeer_no (by assumption)).elim | exact absurd rfl (show ((membersOf p i).length : Int) ≠ ((membersOf p i).length : Int) by assumption))), ((hx217).done (geCons hge_b145_w (geCons hge_b62_w (geCons hge_b48_w geNil))))⟩
  refine WP.skip ?_
  refine WP.sr ?_
  have hbase := refMayB_base (p := p) (by assumption)
  refine WL.z (.agg #[.int .i64 (p.Id), v114, .int .u64 (p.Term), .int .i64 (p.Vote), .int .u8 (p.Role), .int .i64 (p.Lead), .int .u64 (p.Base), .int .u64 (p.BaseTerm), v116, .string (p.Snap), v118, .int .u64 (p.Commit), .int .i64 (p.Idle), .int .i64 (p.Wait), v120, v122, .int .u64 (p.Round), v124]) (V.loadAgg (x := .tmp 7) (cs := [.int .i64 (p.Id), v114, .int .u64 (p.Term), .int .i64 (p.Vote), .int .u8 (p.Role), .int .i64 (p.Lead), .int .u64 (p.Base), .int .u64 (p.BaseTerm), v116, .string (p.Snap), v118, .int .u64 (p.Commit), .int .i64 (p.Idle), .int .i64 (p.Wait), v120, v122, .int .u64 (p.Round), v124]) rfl a29 h7_209 (At.box hbb145_209) rfl) ?_
  refine WL.c (Sure.none rfl) rfl (C.call1 rfl cl16 rfl) (Fnc.mono (vote_Last (p := p) ⟨v114, v116, v118, v120, v122, v124, rfl, (hl160.ext (Ext.pre hx211)), (hl161.ext (Ext.pre hx211)), (hl162.ext (Ext.pre hx211)), (hl163.ext (Ext.pre hx211)), (hl164.ext (Ext.pre hx211)), (hl165.ext (Ext.pre hx211)), hk126⟩ (by omega)) ?_)
  rintro _ w225 ⟨rfl, hx226⟩
  have hx227 : Ext [b145, b62, b48] w w225 := hx210.trans (Ext.any (Y := [b145, b62, b48]) hx226)
  have hx228 : Ext [b145, b62, b48] w146 w225 := hx211.trans (Ext.any (Y := [b145, b62, b48]) hx226)
  have hb232 := hbb48_209.ext hx226 (by simp)
  have hb233 := hbb62_209.ext hx226 (by simp)
  have hb234 := hbb145_209.ext hx226 (by simp)
  refine WL.m rfl ?_
  refine WL.z (.int .u64 (lastI p)) (V.extract rfl rfl rfl) ?_
  refine WL.z (.int .u64 (lastT p)) (V.extract rfl rfl rfl) ?_
  refine WL.m rfl ?_
  refine WL.m rfl ?_
  refine WL.nil ?_
  refine WP.sr ?_
  refine WL.z (.agg #[.int .i64 (p.Id), v1, .int .u64 (p.Term), .int .i64 (p.Vote), .int .u8 (p.Role), .int .i64 (p.Lead), .int .u64 (p.Base), .int .u64 (p.BaseTerm), v3, .string (p.Snap), v5, .int .u64 (p.Commit), .int .i64 (p.Idle), .int .i64 (p.Wait), v7, v9, .int .u64 (p.Round), v11]) (V.loadAgg (x := .tmp 3) (cs := [.int .i64 (p.Id), v1, .int .u64 (p.Term), .int .i64 (p.Vote), .int .u8 (p.Role), .int .i64 (p.Lead), .int .u64 (p.Base), .int .u64 (p.BaseTerm), v3, .string (p.Snap), v5, .int .u64 (p.Commit), .int .i64 (p.Idle), .int .i64 (p.Wait), v7, v9, .int .u64 (p.Round), v11]) rfl a29 h3_209 (At.box hb232) rfl) ?_
  refine WL.c (Sure.none rfl) rfl (C.call1 rfl cl17 rfl) (Fnc.mono (ref_Last (p := p) ⟨v1, v3, v5, v7, v9, v11, rfl, (hl152.ext (Ext.pre hx228)), (hl153.ext (Ext.pre hx228)), (hl154.ext (Ext.pre hx228)), (hl155.ext (Ext.pre hx228)), (hl156.ext (Ext.pre hx228)), (hl157.ext (Ext.pre hx228)), hk13⟩ (by omega)) ?_)
  rintro _ w235 ⟨rfl, hx236⟩
  have hx237 : Ext [b145, b62, b48] w w235 := hx227.trans (Ext.any (Y := [b145, b62, b48]) hx236)
  have hx238 : Ext [b145, b62, b48] w146 w235 := hx228.trans (Ext.any (Y := [b145, b62, b48]) hx236)
  have hb243 := hb232.ext hx236 (by simp)
  have hb244 := hb233.ext hx236 (by simp)
  have hb245 := hb234.ext hx236 (by simp)
  refine WL.m rfl ?_
  refine WL.z (.int .u64 (lastI p)) (V.extract rfl rfl rfl) ?_
  refine WL.z (.int .u64 (lastT p)) (V.extract rfl rfl rfl) ?_
  refine WL.m rfl ?_
  refine WL.m rfl ?_
  refine WL.nil ?_
  refine WP.sr ?_
  refine WL.z (.agg #[.int .i64 (p.Id), v114, .int .u64 (p.Term), .int .i64 (p.Vote), .int .u8 (p.Role), .int .i64 (p.Lead), .int .u64 (p.Base), .int .u64 (p.BaseTerm), v116, .string (p.Snap), v118, .int .u64 (p.Commit), .int .i64 (p.Idle), .int .i64 (p.Wait), v120, v122, .int .u64 (p.Round), v124]) (V.loadAgg (x := .tmp 7) (cs := [.int .i64 (p.Id), v114, .int .u64 (p.Term), .int .i64 (p.Vote), .int .u8 (p.Role), .int .i64 (p.Lead), .int .u64 (p.Base), .int .u64 (p.BaseTerm), v116, .string (p.Snap), v118, .int .u64 (p.Commit), .int .i64 (p.Idle), .int .i64 (p.Wait), v120, v122, .int .u64 (p.Round), v124]) rfl a29 h7_209 (At.box hb245) rfl) ?_
  refine WL.m rfl ?_
  refine WL.c (Sure.none rfl) rfl (C.call2 (y := .tmp 84) rfl cl18 rfl h2_209) (Fnc.mono (vote_Term (p := p) ⟨v114, v116, v118, v120, v122, v124, rfl, (hl160.ext (Ext.pre hx238)), (hl161.ext (Ext.pre hx238)), (hl162.ext (Ext.pre hx238)), (hl163.ext (Ext.pre hx238)), (hl164.ext (Ext.pre hx238)), (hl165.ext (Ext.pre hx238)), hk126⟩ i (by omega) (by omega)) ?_)
  rintro _ w246 ⟨rfl, hx247⟩
  have hx248 : Ext [b145, b62, b48] w w246 := hx237.trans (Ext.any (Y := [b145, b62, b48]) hx247)
  have hx249 : Ext [b145, b62, b48] w146 w246 := hx238.trans (Ext.any (Y := [b145, b62, b48]) hx247)
  have hb255 := hb243.ext hx247 (by simp)
  have hb256 := hb244.ext hx247 (by simp)
  have hb257 := hb245.ext hx247 (by simp)
  refine WL.m rfl ?_
  refine WL.z (.int .u64 (termOf p i)) (V.extract rfl rfl rfl) ?_
  refine WL.z (.bool (termIs p i)) (V.extract rfl rfl rfl) ?_
  refine WL.m rfl ?_
  refine WL.m rfl ?_
  refine WL.nil ?_
  refine WP.sr ?_
  refine WL.z (.agg #[.int .i64 (p.Id), v1, .int .u64 (p.Term), .int .i64 (p.Vote), .int .u8 (p.Role), .int .i64 (p.Lead), .int .u64 (p.Base), .int .u64 (p.BaseTerm), v3, .string (p.Snap), v5, .int .u64 (p.Commit), .int .i64 (p.Idle), .int .i64 (p.Wait), v7, v9, .int .u64 (p.Round), v11]) (V.loadAgg (x := .tmp 3) (cs := [.int .i64 (p.Id), v1, .int .u64 (p.Term), .int .i64 (p.Vote), .int .u8 (p.Role), .int .i64 (p.Lead), .int .u64 (p.Base), .int .u64 (p.BaseTerm), v3, .string (p.Snap), v5, .int .u64 (p.Commit), .int .i64 (p.Idle), .int .i64 (p.Wait), v7, v9, .int .u64 (p.Round), v11]) rfl a29 h3_209 (At.box hb255) rfl) ?_
  refine WL.m rfl ?_
  refine WL.c (Sure.none rfl) rfl (C.call2 (y := .tmp 90) rfl cl19 rfl h2_209) (Fnc.mono (ref_Term (p := p) ⟨v1, v3, v5, v7, v9, v11, rfl, (hl152.ext (Ext.pre hx249)), (hl153.ext (Ext.pre hx249)), (hl154.ext (Ext.pre hx249)), (hl155.ext (Ext.pre hx249)), (hl156.ext (Ext.pre hx249)), (hl157.ext (Ext.pre hx249)), hk13⟩ i (by omega) (by omega)) ?_)
  rintro _ w258 ⟨rfl, hx259⟩
  have hx260 : Ext [b145, b62, b48] w w258 := hx248.trans (Ext.any (Y := [b145, b62, b48]) hx259)
  have hx261 : Ext [b145, b62, b48] w146 w258 := hx249.trans (Ext.any (Y := [b145, b62, b48]) hx259)
  have hb268 := hb255.ext hx259 (by simp)
  have hb269 := hb256.ext hx259 (by simp)
  have hb270 := hb257.ext hx259 (by simp)
  refine WL.m rfl ?_
  refine WL.z (.int .u64 (termOf p i)) (V.extract rfl rfl rfl) ?_
  refine WL.z (.bool (termIs p i)) (V.extract rfl rfl rfl) ?_
  refine WL.m rfl ?_
  refine WL.m rfl ?_
  refine WL.nil ?_
  refine WP.seq ?_
  have hxr := (show peerR.rd (b145 :: (b62 :: (b48 :: X))) w258 [.int .i64 (p.Id), v114, .int .u64 (p.Term), .int .i64 (p.Vote), .int .u8 (p.Role), .int .i64 (p.Lead), .int .u64 (p.Base), .int .u64 (p.BaseTerm), v116, .string (p.Snap), v118, .int .u64 (p.Commit), .int .i64 (p.Idle), .int .i64 (p.Wait), v120, v122, .int .u64 (p.Round), v124] p from ⟨v114, v116, v118, v120, v122, v124, rfl, (hl160.ext (Ext.pre hx261)), (hl161.ext (Ext.pre hx261)), (hl162.ext (Ext.pre hx261)), (hl163.ext (Ext.pre hx261)), (hl164.ext (Ext.pre hx261)), (hl165.ext (Ext.pre hx261)), hk126⟩)
  have hpr2 := (show peerR.rd (b145 :: (b62 :: (b48 :: X))) w258 [.int .i64 (p.Id), v1, .int .u64 (p.Term), .int .i64 (p.Vote), .int .u8 (p.Role), .int .i64 (p.Lead), .int .u64 (p.Base), .int .u64 (p.BaseTerm), v3, .string (p.Snap), v5, .int .u64 (p.Commit), .int .i64 (p.Idle), .int .i64 (p.Wait), v7, v9, .int .u64 (p.Round), v11] p from ⟨v1, v3, v5, v7, v9, v11, rfl, (hl152.ext (Ext.pre hx261)), (hl153.ext (Ext.pre hx261)), (hl154.ext (Ext.pre hx261)), (hl155.ext (Ext.pre hx261)), (hl156.ext (Ext.pre hx261)), (hl157.ext (Ext.pre hx261)), hk13⟩)
  refine WP.anyD [DFact.eq (.agg #[.int .i64 (p.Id), v114, .int .u64 (p.Term), .int .i64 (p.Vote), .int .u8 (p.Role), .int .i64 (p.Lead), .int .u64 (p.Base), .int .u64 (p.BaseTerm), v116, .string (p.Snap), v118, .int .u64 (p.Commit), .int .i64 (p.Idle), .int .i64 (p.Wait), v120, v122, .int .u64 (p.Round), v124]), DFact.eq (.int .u64 (i)), ⟨fun _ v w => KRow w258.heap.size (b145 :: (b62 :: (b48 :: X))) w v (membersOf p i), [], fun _ _ _ _ _ h => h, fun _ _ _ _ k h => h.ext k (by simp)⟩, DFact.eq (.agg #[.int .i64 (p.Id), v1, .int .u64 (p.Term), .int .i64 (p.Vote), .int .u8 (p.Role), .int .i64 (p.Lead), .int .u64 (p.Base), .int .u64 (p.BaseTerm), v3, .string (p.Snap), v5, .int .u64 (p.Commit), .int .i64 (p.Idle), .int .i64 (p.Wait), v7, v9, .int .u64 (p.Round), v11]), DFact.eq (.int .u64 (i)),
    ⟨fun E v w => Sl (intR .i64) (rowOf (E 96) ++ (b145 :: (b62 :: (b48 :: X)))) w v (membersOf p i), [96], fun E E' v w h hs => by rw [← h 96 (by simp)]; exact hs, fun _ _ _ _ k h => h.ext (Ext.any k)⟩, ⟨fun E v _ => v = E 96, [96], fun E E' v w h hs => by rw [← h 96 (by simp)]; exact hs, fun _ _ _ _ _ h => h⟩, ⟨fun E v _ => v = E 99, [99], fun E E' v w h hs => by rw [← h 99 (by simp)]; exact hs, fun _ _ _ _ _ h => h⟩] mo (by kernel_rfl) (by kernel_rfl) (by kernel_rfl) (by kernel_rfl) ⟨?_, ?_, ?_, ?_, ?_, ?_, ?_, ?_, trivial⟩ (by kernel_rfl) ?_
  · intro E' w' hw hE hp
    exact .inr ⟨Sure.none rfl, .inl ⟨_, V.loadAgg (x := .tmp 7) (cs := [.int .i64 (p.Id), v114, .int .u64 (p.Term), .int .i64 (p.Vote), .int .u8 (p.Role), .int .i64 (p.Lead), .int .u64 (p.Base), .int .u64 (p.BaseTerm), v116, .string (p.Snap), v118, .int .u64 (p.Commit), .int .i64 (p.Idle), .int .i64 (p.Wait), v120, v122, .int .u64 (p.Round), v124]) rfl a29 ((hE 7 (by kernel_rfl)).trans h7_209) (At.box (hb270.ext hw (by simp))) rfl, rfl⟩⟩
  · intro E' w' hw hE hp
    exact .inr ⟨Sure.none rfl, .inl ⟨_, V.move (x := .tmp 2) rfl ((hE 2 (by kernel_rfl)).trans h2_209), rfl⟩⟩
  · intro E' w' hw hE hp
    have p0 : E' 94 = (.agg #[.int .i64 (p.Id), v114, .int .u64 (p.Term), .int .i64 (p.Vote), .int .u8 (p.Role), .int .i64 (p.Lead), .int .u64 (p.Base), .int .u64 (p.BaseTerm), v116, .string (p.Snap), v118, .int .u64 (p.Commit), .int .i64 (p.Idle), .int .i64 (p.Wait), v120, v122, .int .u64 (p.Round), v124] : Value) := hp 0 (by kernel_rfl)
    have p1 : E' 95 = (.int .u64 (i) : Value) := hp 1 (by kernel_rfl)
    exact .inr ⟨Sure.none rfl, .inr ⟨_, _, C.call2 (x := .tmp 94) (y := .tmp 95) rfl cl20 p0 p1, Fnc.mono (vote_MembersK (p := p) (X := (b145 :: (b62 :: (b48 :: X)))) (peerR.ext hxr (Ext.any hw)) i (inMono (inCons hb270.lt (inCons hb269.lt (inCons hb268.lt (inMono hX hx260.size)))) hw.size) hbase hi hF) (fun v w'' h => ⟨h.2, h.1.low hw.size⟩)⟩⟩
  · intro E' w' hw hE hp
    exact .inr ⟨Sure.none rfl, .inl ⟨_, V.loadAgg (x := .tmp 3) (cs := [.int .i64 (p.Id), v1, .int .u64 (p.Term), .int .i64 (p.Vote), .int .u8 (p.Role), .int .i64 (p.Lead), .int .u64 (p.Base), .int .u64 (p.BaseTerm), v3, .string (p.Snap), v5, .int .u64 (p.Commit), .int .i64 (p.Idle), .int .i64 (p.Wait), v7, v9, .int .u64 (p.Round), v11]) rfl a29 ((hE 3 (by kernel_rfl)).trans h3_209) (At.box (hb268.ext hw (by simp))) rfl, rfl⟩⟩
  · intro E' w' hw hE hp
    exact .inr ⟨Sure.none rfl, .inl ⟨_, V.move (x := .tmp 2) rfl ((hE 2 (by kernel_rfl)).trans h2_209), rfl⟩⟩
  · intro E' w' hw hE hp
    have p2 : KRow w258.heap.size (b145 :: (b62 :: (b48 :: X))) w' (E' 96) (membersOf p i) := hp 2 (by kernel_rfl)
    have p3 : E' 97 = (.agg #[.int .i64 (p.Id), v1, .int .u64 (p.Term), .int .i64 (p.Vote), .int .u8 (p.Role), .int .i64 (p.Lead), .int .u64 (p.Base), .int .u64 (p.BaseTerm), v3, .string (p.Snap), v5, .int .u64 (p.Commit), .int .i64 (p.Idle), .int .i64 (p.Wait), v7, v9, .int .u64 (p.Round), v11] : Value) := hp 3 (by kernel_rfl)
    have p4 : E' 98 = (.int .u64 (i) : Value) := hp 4 (by kernel_rfl)
    exact .inr ⟨Sure.none rfl, .inr ⟨_, _, C.call2 (x := .tmp 97) (y := .tmp 98) rfl cl21 p3 p4, Fnc.mono (ref_Members (p := p) (X := rowOf (E' 96) ++ (b145 :: (b62 :: (b48 :: X)))) (peerR.ext (Rep.newRow hpr2 p2.ge) (Ext.any hw)) i hbase hi hF (inApp p2.lt (inMono (inCons hb270.lt (inCons hb269.lt (inCons hb268.lt (inMono hX hx260.size)))) hw.size))) (fun v w'' ⟨_, e, hs, hx⟩ => ⟨hx, by subst e; exact hs⟩)⟩⟩
  · intro E' w' hw hE hp
    exact .inr ⟨Sure.none rfl, .inl ⟨E' 96, V.assign (x := .tmp 96) rfl rfl, rfl⟩⟩
  · intro E' w' hw hE hp
    exact .inr ⟨Sure.none rfl, .inl ⟨E' 99, V.assign (x := .tmp 99) rfl rfl, rfl⟩⟩
  · intro E13 w13 hw hE hp
    have hk2 : KRow w258.heap.size (b145 :: (b62 :: (b48 :: X))) w13 (E13 96) (membersOf p i) := hp 2 (of_decide_eq_true (by kernel_rfl))
    have hl2' : Sl (intR .i64) (rowOf (E13 96) ++ (b145 :: (b62 :: (b48 :: X)))) w13 (E13 99) (membersOf p i) := hp 5 (of_decide_eq_true (by kernel_rfl))
    have h17 : E13 17 = E13 96 := hp 6 (of_decide_eq_true (by kernel_rfl))
    have h18 : E13 18 = E13 99 := hp 7 (of_decide_eq_true (by kernel_rfl))
    obtain ⟨vk, hvk⟩ : ∃ v, E13 96 = v := ⟨_, rfl⟩
    obtain ⟨vl, hvl⟩ : ∃ v, E13 99 = v := ⟨_, rfl⟩
    rw [hvk] at hk2 hl2' h17
    rw [hvl] at hl2' h18
    obtain ⟨gk, hgk, hgge, hgX, hrow⟩ := hk2.at (K := w13.heap.size) hw.size (by intro hm; have := (inMono (inCons hb270.lt (inCons hb269.lt (inCons hb268.lt (inMono hX hx260.size)))) hw.size) _ hm; omega)
    have hl2 : Sl (intR .i64) (gk :: (b145 :: (b62 :: (b48 :: X)))) w13 vl (membersOf p i) := by rw [hgk]; exact Sl.atRow (by show (1 : Nat) ≠ 0; decide) hl2' (Nat.le_refl _)
    have hg271 := (Sl.new (b := gk) (by show (1 : Nat) ≠ 0; decide) (hl152.ext (Ext.pre hx261)) hgge).ext (Ext.any hw)
    have hg272 := (Sl.new (b := gk) (by show (1 : Nat) ≠ 0; decide) (hl153.ext (Ext.pre hx261)) hgge).ext (Ext.any hw)
    have hg273 := (Sl.new (b := gk) (by show (4 : Nat) ≠ 0; decide) (hl154.ext (Ext.pre hx261)) hgge).ext (Ext.any hw)
    have hg274 := (Sl.new (b := gk) (by show (1 : Nat) ≠ 0; decide) (hl155.ext (Ext.pre hx261)) hgge).ext (Ext.any hw)
    have hg275 := (Sl.new (b := gk) (by show (3 : Nat) ≠ 0; decide) (hl156.ext (Ext.pre hx261)) hgge).ext (Ext.any hw)
    have hg276 := (Sl.new (b := gk) (by show (3 : Nat) ≠ 0; decide) (hl157.ext (Ext.pre hx261)) hgge).ext (Ext.any hw)
    have hg279 := (Sl.new (b := gk) (by show (1 : Nat) ≠ 0; decide) (hl160.ext (Ext.pre hx261)) hgge).ext (Ext.any hw)
    have hg280 := (Sl.new (b := gk) (by show (1 : Nat) ≠ 0; decide) (hl161.ext (Ext.pre hx261)) hgge).ext (Ext.any hw)
    have hg281 := (Sl.new (b := gk) (by show (4 : Nat) ≠ 0; decide) (hl162.ext (Ext.pre hx261)) hgge).ext (Ext.any hw)
    have hg282 := (Sl.new (b := gk) (by show (1 : Nat) ≠ 0; decide) (hl163.ext (Ext.pre hx261)) hgge).ext (Ext.any hw)
    have hg283 := (Sl.new (b := gk) (by show (3 : Nat) ≠ 0; decide) (hl164.ext (Ext.pre hx261)) hgge).ext (Ext.any hw)
    have hg284 := (Sl.new (b := gk) (by show (3 : Nat) ≠ 0; decide) (hl165.ext (Ext.pre hx261)) hgge).ext (Ext.any hw)
    have hx285 : Ext [b145, b62, b48] w w13 := hx260.trans (Ext.any (Y := [b145, b62, b48]) hw)
    have hb294 := hb268.ext hw (by simp)
    have hb296 := hb270.ext hw (by simp)
    have hgkw : w.heap.size ≤ gk := Nat.le_trans (hx260.size) hgge
    refine WP.seq ?_
    refine WP.sr ?_
    refine WL.m rfl ?_
    refine WL.m rfl ?_
    refine WL.z (.bool (decide ((lastI p) ≠ (lastI p)))) (V.cmp (x := .tmp 100) (y := .tmp 101) rfl ((hE 9 (by kernel_rfl)).trans rfl) ((hE 11 (by kernel_rfl)).trans rfl) rfl) ?_
    refine WL.vbp (c := (lastI p) ≠ (lastI p)) (Sure.none rfl) rfl (V.move rfl rfl) (fun hc297 => ?_) (fun hc297 => ?_)
    · exact absurd rfl hc297
    refine WL.my rfl rfl ?_
    refine WL.my rfl rfl ?_
    refine WL.y (.bool (decide ((lastT p) ≠ (lastT p)))) rfl (V.cmp (x := .tmp 104) (y := .tmp 105) rfl ((hE 10 (by kernel_rfl)).trans rfl) ((hE 12 (by kernel_rfl)).trans rfl) rfl) ?_
    refine WL.k (a := false) rfl rfl ?_
    refine WL.vbp (c := (lastT p) ≠ (lastT p)) (Sure.none rfl) rfl (V.move rfl rfl) (fun hc298 => ?_) (fun hc298 => ?_)
    · exact absurd rfl hc298
    refine WL.my rfl rfl ?_
    refine WL.my rfl rfl ?_
    refine WL.y (.bool (decide ((termOf p i) ≠ (termOf p i)))) rfl (V.cmp (x := .tmp 109) (y := .tmp 110) rfl ((hE 13 (by kernel_rfl)).trans rfl) ((hE 15 (by kernel_rfl)).trans rfl) rfl) ?_
    refine WL.k (a := false) rfl rfl ?_
    refine WL.vbp (c := (termOf p i) ≠ (termOf p i)) (Sure.none rfl) rfl (V.move rfl rfl) (fun hc299 => ?_) (fun hc299 => ?_)
    · exact absurd rfl hc299
    refine WL.my rfl rfl ?_
    refine WL.my rfl rfl ?_
    refine WL.y (.bool (!((termIs p i) == (termIs p i)))) rfl (V.bcmpNe (x := .tmp 114) (y := .tmp 115) rfl u4 ((hE 14 (by kernel_rfl)).trans rfl) ((hE 16 (by kernel_rfl)).trans rfl)) ?_
    refine WL.k (a := false) rfl rfl ?_
    refine WL.vbn (c := (termIs p i) == (termIs p i)) (Sure.none rfl) rfl (V.move rfl rfl) (fun hc300 => ?_) (fun hc300 => ?_)
    · exact absurd hc300 (by simp)
    refine WL.my rfl rfl ?_
    obtain ⟨a301, c302, hv303⟩ := hk2.sl.shape
    refine WL.y (.int .i64 (((membersOf p i).length : Int))) rfl (V.lenSlice (x := .tmp 119) rfl rfl u22 (Eq.trans (b := vk) h17 hv303)) ?_
    refine WL.my rfl rfl ?_
    obtain ⟨a304, c305, hv306⟩ := (hl2.mono (fun _ h => List.mem_cons_of_mem _ h)).shape
    refine WL.y (.int .i64 (((membersOf p i).length : Int))) rfl (V.lenSlice (x := .tmp 121) rfl rfl u22 (Eq.trans (b := vl) h18 hv306)) ?_
    refine WL.y (.bool (decide (((membersOf p i).length : Int) ≠ ((membersOf p i).length : Int)))) rfl (V.cmp rfl rfl rfl rfl) ?_
    refine WL.k (a := false) rfl rfl ?_
    refine WL.nil ?_
    refine WP.condp (t := ((membersOf p i).length : Int) ≠ ((membersOf p i).length : Int)) rfl (fun hc307 => ?_) (fun hc307 => ?_)
    · refine WP.sr ?_
      refine WL.m rfl ?_
      refine WL.nil ?_
      refine WP.ret ?_
      refine resOf.c1 rfl (v := .bool (false)) rfl ?_
      exact ⟨(bool_eq (by first | rfl | exact (samePeer_no (by assumption)).elim | exact absurd rfl (show ((membersOf p i).length : Int) ≠ ((membersOf p i).length : Int) by assumption))), ((hx285).done (geCons hge_b145_w (geCons hge_b62_w (geCons hge_b48_w geNil))))⟩
    refine WP.skip ?_
    refine WP.seq ?_
    refine WP.sr ?_
    refine WL.m rfl ?_
    refine WL.nil ?_
    refine WP.block ?_
    refine WP.loop (σ := Nat) (fun j E w' => E 17 = vk ∧ E 18 = vl ∧ E 19 = .int .i64 (j : Int) ∧ E 3 = .pointer (some ⟨b48, 0, none⟩) ∧ E 7 = .pointer (some ⟨b145, 0, none⟩) ∧ j ≤ (membersOf p i).length ∧ RowAt gk w' vk (markL (membersOf p i) 99 j) ∧ Ext [gk] w13 w') (fun j => (membersOf p i).length - j) 0 ?_ ?_
    · exact ⟨h17, h18, rfl, ((hE 3 (by kernel_rfl)).trans h3_209), ((hE 7 (by kernel_rfl)).trans h7_209), Nat.zero_le _, by rw [markL_zero]; exact hrow, Ext.refl _ _⟩
    · rintro j E w3 ⟨g17, g18, g19, g3, g7, hj, hr3, hx3⟩
      have hmle := hl2.le'
      have hlen3 : ∃ a c, vk = .slice a (membersOf p i).length c := by
        rcases hr3 with ⟨rfl, h0⟩ | ⟨cap, T, h0, _⟩
        · have h1 := congrArg List.length h0
          rw [markL_len hj] at h1
          exact ⟨none, 0, by rw [h1]; rfl⟩
        · rw [markL_len hj] at h0; exact ⟨_, _, h0⟩
      obtain ⟨ak, ck, hvk⟩ := hlen3
      refine WP.seq ?_
      refine WP.seq ?_
      refine WP.region ?_
      refine WL.v (u := .int .i64 (j : Int)) (Sure.none rfl) rfl (V.move (x := .tmp 19) rfl g19) ?_
      refine WL.v (u := vk) (Sure.none rfl) rfl (V.move (x := .tmp 17) rfl g17) ?_
      refine WL.v (u := .int .i64 ((membersOf p i).length : Int)) (Sure.none rfl) rfl (V.lenSlice (x := .tmp 126) rfl rfl u22 (Eq.trans (b := vk) rfl hvk)) ?_
      refine WL.v (u := .bool (decide ((j : Int) < ((membersOf p i).length : Int)))) (Sure.none rfl) rfl (V.cmp (x := .tmp 125) (y := .tmp 127) rfl rfl rfl rfl) ?_
      refine WL.nil ?_
      refine WP.cond (t := decide ((j : Int) < ((membersOf p i).length : Int))) rfl (fun hc => ?_) (fun hc => ?_)
      · replace hc := of_decide_eq_true hc
        have hjl : j < (membersOf p i).length := by omega
        rcases hr3 with ⟨_, h0⟩ | ⟨cap, T, hvk2, hbox⟩
        · have h1 := congrArg List.length h0
          rw [markL_len hj] at h1
          rw [h1] at hjl
          exact absurd hjl (Nat.not_lt_zero _)
        rw [markL_len hj] at hvk2
        obtain ⟨bb, kk, cc, cs, hvl, hnb, hrd, hat⟩ := (hl2.ext (hx3.mono (by simp))).get (i := j) (x := (membersOf p i).getD j 0) (getD_some hjl _)
        obtain ⟨rfl, hin⟩ := hrd
        have hget : (irow (markL (membersOf p i) 99 j) T)[0 + j * 1]? = some (.int .i64 ((membersOf p i).getD j 0)) := by
          rw [show 0 + j * 1 = j from by omega, irow_get (by rw [markL_len hj]; exact hjl), markL_get hjl]
        refine WP.skip ?_
        refine WP.seq ?_
        refine WP.block ?_
        refine WP.seq ?_
        refine WP.seq ?_
        refine WP.quiet mo (by kernel_rfl) ?_
        refine WQ.v (u := vk) (Sure.none rfl) rfl (fun w' hw => V.move (x := .tmp 17) rfl g17) ?_
        refine WQ.v (u := .int .i64 (j : Int)) (Sure.none rfl) rfl (fun w' hw => V.move (x := .tmp 19) rfl g19) ?_
        refine WQ.v (u := .pointer (some ⟨gk, 0 + j * 1, none⟩)) (Sure.none rfl) rfl (fun w' hw => V.indexAddr (x := .tmp 131) (i := .tmp 132) (m := j) (j := (j : Int)) rfl u22 s3 (Eq.trans (b := vk) rfl hvk2) rfl rfl hjl) ?_
        refine WQ.v (u := .int .i64 ((membersOf p i).getD j 0)) (Sure.none rfl) rfl (fun w' hw => V.load (x := .tmp 133) rfl p3 rfl ((hbox.ext hw (by simp)).cell hget)) ?_
        refine WQ.v (u := vl) (Sure.none rfl) rfl (fun w' hw => V.move (x := .tmp 18) rfl g18) ?_
        refine WQ.v (u := .int .i64 (j : Int)) (Sure.none rfl) rfl (fun w' hw => V.move (x := .tmp 19) rfl g19) ?_
        refine WQ.v (u := .pointer (some ⟨bb, kk + j * 1, none⟩)) (Sure.none rfl) rfl (fun w' hw => V.indexAddr (x := .tmp 135) (i := .tmp 136) (m := j) (j := (j : Int)) rfl u22 s3 (Eq.trans (b := vl) rfl hvl) rfl rfl hjl) ?_
        refine WQ.v (u := .int .i64 ((membersOf p i).getD j 0)) (Sure.none rfl) rfl (fun w' hw => V.load (x := .tmp 137) rfl p3 rfl ((hat.ext hw (by simp)).cell (j := 0) rfl)) ?_
        refine WQ.v (u := .bool (decide ((membersOf p i).getD j 0 ≠ (membersOf p i).getD j 0))) (Sure.none rfl) rfl (fun w' hw => V.cmp (x := .tmp 134) (y := .tmp 138) rfl rfl rfl rfl) ?_
        refine WQ.nil (fun w4 hq => ?_)
        have hbox4 := hbox.ext hq (by simp)
        refine WP.cond (t := decide ((membersOf p i).getD j 0 ≠ (membersOf p i).getD j 0)) rfl (fun hc => absurd rfl (of_decide_eq_true hc)) (fun _ => ?_)
        refine WP.skip ?_
        refine WP.region ?_
        refine WL.v (u := vk) (Sure.none rfl) rfl (V.move (x := .tmp 17) rfl g17) ?_
        refine WL.v (u := .int .i64 (j : Int)) (Sure.none rfl) rfl (V.move (x := .tmp 19) rfl g19) ?_
        refine WL.v (u := .pointer (some ⟨gk, 0 + j * 1, none⟩)) (Sure.none rfl) rfl (V.indexAddr (x := .tmp 140) (i := .tmp 141) (m := j) (j := (j : Int)) rfl u22 s3 (Eq.trans (b := vk) rfl hvk2) rfl rfl hjl) ?_
        refine WL.store (x := .tmp 142) (v := .int .i64 99) (Sure.none rfl) rfl rfl s3 rfl rfl rfl hbox4 (by rw [irow_len, markL_len hj]; omega) (fun w5 hx5 hb5 => ?_)
        rw [show 0 + j * 1 = j from by omega, irow_set (by rw [markL_len hj]; exact hjl), markL_set hjl] at hb5
        refine WL.nil ?_
        refine WP.region ?_
        refine WL.v (u := .int .i64 (j : Int)) (Sure.none rfl) rfl (V.move (x := .tmp 19) rfl g19) ?_
        refine WL.v (u := .int .i64 ((j : Int) + 1)) (Sure.none rfl) rfl (V.arith (x := .tmp 129) rfl rfl rfl rfl (wrap_i64 (by omega) (by omega))) ?_
        refine WL.v (u := .int .i64 ((j : Int) + 1)) (Sure.none rfl) rfl (V.assign (x := .tmp 130) rfl rfl) ?_
        refine WL.nil ?_
        refine ⟨j + 1, ⟨g17, g18, int_eq (by omega), g3, g7, hjl, .inr ⟨cap, T, ?_, hb5⟩, (hx3.trans (Ext.any hq)).trans hx5⟩, by omega⟩
        rw [markL_len hjl]; exact hvk2
      · refine WP.exit ?_
        have hb308 := hb294.ext hx3 (by intro hm; simp only [List.mem_singleton] at hm; exact hgX (by rw [← hm]; simp))
        have hb310 := hb296.ext hx3 (by intro hm; simp only [List.mem_singleton] at hm; exact hgX (by rw [← hm]; simp))
        have hl311 := (hg271.ext (hx3.mono (by simp))).mono (fun _ h => List.mem_cons_of_mem _ h)
        have hl312 := (hg272.ext (hx3.mono (by simp))).mono (fun _ h => List.mem_cons_of_mem _ h)
        have hl313 := (hg273.ext (hx3.mono (by simp))).mono (fun _ h => List.mem_cons_of_mem _ h)
        have hl314 := (hg274.ext (hx3.mono (by simp))).mono (fun _ h => List.mem_cons_of_mem _ h)
        have hl315 := (hg275.ext (hx3.mono (by simp))).mono (fun _ h => List.mem_cons_of_mem _ h)
        have hl316 := (hg276.ext (hx3.mono (by simp))).mono (fun _ h => List.mem_cons_of_mem _ h)
        have hl319 := (hg279.ext (hx3.mono (by simp))).mono (fun _ h => List.mem_cons_of_mem _ h)
        have hl320 := (hg280.ext (hx3.mono (by simp))).mono (fun _ h => List.mem_cons_of_mem _ h)
        have hl321 := (hg281.ext (hx3.mono (by simp))).mono (fun _ h => List.mem_cons_of_mem _ h)
        have hl322 := (hg282.ext (hx3.mono (by simp))).mono (fun _ h => List.mem_cons_of_mem _ h)
        have hl323 := (hg283.ext (hx3.mono (by simp))).mono (fun _ h => List.mem_cons_of_mem _ h)
        have hl324 := (hg284.ext (hx3.mono (by simp))).mono (fun _ h => List.mem_cons_of_mem _ h)
        have hx325 := (Ext.skip hx285 hx3 (by intro y hy; simp only [List.mem_singleton] at hy; omega))
        refine WP.sr ?_
        refine WL.z (.agg #[.int .i64 (p.Id), v114, .int .u64 (p.Term), .int .i64 (p.Vote), .int .u8 (p.Role), .int .i64 (p.Lead), .int .u64 (p.Base), .int .u64 (p.BaseTerm), v116, .string (p.Snap), v118, .int .u64 (p.Commit), .int .i64 (p.Idle), .int .i64 (p.Wait), v120, v122, .int .u64 (p.Round), v124]) (V.loadAgg (x := .tmp 7) (cs := [.int .i64 (p.Id), v114, .int .u64 (p.Term), .int .i64 (p.Vote), .int .u8 (p.Role), .int .i64 (p.Lead), .int .u64 (p.Base), .int .u64 (p.BaseTerm), v116, .string (p.Snap), v118, .int .u64 (p.Commit), .int .i64 (p.Idle), .int .i64 (p.Wait), v120, v122, .int .u64 (p.Round), v124]) rfl a29 g7 (At.box hb310) rfl) ?_
        refine WL.z (.agg #[.int .i64 (p.Id), v1, .int .u64 (p.Term), .int .i64 (p.Vote), .int .u8 (p.Role), .int .i64 (p.Lead), .int .u64 (p.Base), .int .u64 (p.BaseTerm), v3, .string (p.Snap), v5, .int .u64 (p.Commit), .int .i64 (p.Idle), .int .i64 (p.Wait), v7, v9, .int .u64 (p.Round), v11]) (V.loadAgg (x := .tmp 3) (cs := [.int .i64 (p.Id), v1, .int .u64 (p.Term), .int .i64 (p.Vote), .int .u8 (p.Role), .int .i64 (p.Lead), .int .u64 (p.Base), .int .u64 (p.BaseTerm), v3, .string (p.Snap), v5, .int .u64 (p.Commit), .int .i64 (p.Idle), .int .i64 (p.Wait), v7, v9, .int .u64 (p.Round), v11]) rfl a29 g3 (At.box hb308) rfl) ?_
        refine WL.c (Sure.none rfl) rfl (C.call2 rfl cl14 rfl rfl) (Fnc.mono (ref_Same (a := p) ⟨v114, v116, v118, v120, v122, v124, rfl, hl319, hl320, hl321, hl322, hl323, hl324, hk126⟩ (b := p) ⟨v1, v3, v5, v7, v9, v11, rfl, hl311, hl312, hl313, hl314, hl315, hl316, hk13⟩) ?_)
        rintro _ w326 ⟨rfl, hx327⟩
        have hx328 : Ext [b145, b62, b48] w w326 := hx325.trans (Ext.any (Y := [b145, b62, b48]) hx327)
        refine WL.vb (c := samePeerB p p) (Sure.none rfl) rfl (V.move rfl rfl) (fun hc333 => ?_) (fun hc333 => ?_)
        rotate_left
        · exact (samePeer_no hc333).elim
        refine WL.c (Sure.yes rfl rfl rfl) rfl (C.call0 rfl cl8 ) (Fnc.mono (law_alive ) ?_)
        rintro _ w334 ⟨rfl, hx335⟩
        have hx336 : Ext [b145, b62, b48] w w334 := hx328.trans (Ext.any (Y := [b145, b62, b48]) hx335)
        refine WL.k (a := true) rfl rfl ?_
        refine WL.m rfl ?_
        refine WL.nil ?_
        refine WP.ret ?_
        refine resOf.c1 rfl (v := .bool (true)) rfl ?_
        exact ⟨(bool_eq (by first | rfl | exact (samePeer_no (by assumption)).elim | exact absurd rfl (show ((membersOf p i).length : Int) ≠ ((membersOf p i).length : Int) by assumption))), ((hx336).done (geCons hge_b145_w (geCons hge_b62_w (geCons hge_b48_w geNil))))⟩

end Go.Proofs.Ytbpamkbegggeoaa.T
