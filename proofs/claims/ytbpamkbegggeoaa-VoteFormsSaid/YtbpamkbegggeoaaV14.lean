import Derived.Test.YtbpamkbegggeoaaV13
namespace Go.Proofs.Ytbpamkbegggeoaa.T
open W Go.RowKit
set_option maxRecDepth 100000
set_option maxHeartbeats 400000

theorem ref_Own {w : World} {X : List Nat} {p : PeerD} {c_p : List Value} (h_p : peerR.rd X w c_p p) (hF : Fits p) (hX : ∀ x ∈ X, x < w.heap.size) : Fnc Try.prog 36 #[.agg c_p.toArray] w (fun v w' => ∃ (u0 : List Value), v = .agg u0.toArray ∧ peerR.rd X w' u0 (p) ∧ Ext [] w w') := by
  obtain ⟨v1, v3, v5, v7, v9, v11, rfl, hl2, hl4, hl6, hl8, hl10, hl12, hk13⟩ := h_p
  obtain ⟨hin14, hin15, hin16, hin17, hin18, hin19, hin20, hin21, hin22, hin23, hin24, hin25⟩ := (show PeerD.InR p from hk13)
  have hin14 := inK_i64 hin14
  have hin15 := inK_u64 hin15
  have hin16 := inK_i64 hin16
  have hin17 := inK_u8 hin17
  have hin18 := inK_i64 hin18
  have hin19 := inK_u64 hin19
  have hin20 := inK_u64 hin20
  have hin22 := inK_u64 hin22
  have hin23 := inK_i64 hin23
  have hin24 := inK_i64 hin24
  have hin25 := inK_u64 hin25
  have hle26 := hl2.le'
  have hle27 := hl4.le'
  have hle28 := hl6.le'
  have hle29 := hl8.le'
  have hle30 := hl10.le'
  have hle31 := hl12.le'
  have hfe := hF.ents
  have hfl := hF.log
  refine Fnc.of_WP (n := 54) Try.func36 rfl Try.ntmps36 (by simp) ?_
  intro E hE
  have h0 : E 0 = .agg #[.int .i64 (p.Id), v1, .int .u64 (p.Term), .int .i64 (p.Vote), .int .u8 (p.Role), .int .i64 (p.Lead), .int .u64 (p.Base), .int .u64 (p.BaseTerm), v3, .string (p.Snap), v5, .int .u64 (p.Commit), .int .i64 (p.Idle), .int .i64 (p.Wait), v7, v9, .int .u64 (p.Round), v11] := hE 0 (by simp)
  clear hE
  refine WP.sr ?_
  refine WL.box (x := .tmp 0) (cs := [.int .i64 (p.Id), v1, .int .u64 (p.Term), .int .i64 (p.Vote), .int .u8 (p.Role), .int .i64 (p.Lead), .int .u64 (p.Base), .int .u64 (p.BaseTerm), v3, .string (p.Snap), v5, .int .u64 (p.Commit), .int .i64 (p.Idle), .int .i64 (p.Wait), v7, v9, .int .u64 (p.Round), v11]) (Sure.none rfl) rfl rfl h0 rfl (fun b32 w33 hx34 he35 hb36 => ?_)
  have hl37 := (Sl.new (b := b32) (by show (1 : Nat) ≠ 0; decide) hl2 (by omega)).ext (Ext.any hx34)
  have hl38 := (Sl.new (b := b32) (by show (1 : Nat) ≠ 0; decide) hl4 (by omega)).ext (Ext.any hx34)
  have hl39 := (Sl.new (b := b32) (by show (4 : Nat) ≠ 0; decide) hl6 (by omega)).ext (Ext.any hx34)
  have hl40 := (Sl.new (b := b32) (by show (1 : Nat) ≠ 0; decide) hl8 (by omega)).ext (Ext.any hx34)
  have hl41 := (Sl.new (b := b32) (by show (3 : Nat) ≠ 0; decide) hl10 (by omega)).ext (Ext.any hx34)
  have hl42 := (Sl.new (b := b32) (by show (3 : Nat) ≠ 0; decide) hl12 (by omega)).ext (Ext.any hx34)
  have hx43 : Ext [b32] _ _ := (Ext.refl _ _).trans (Ext.any hx34)
  have hge_b32_w : w.heap.size ≤ b32 := by have := Nat.le_refl w.heap.size; omega
  refine WL.alloc (cs := [.int .i64 (0), .slice none 0 0, .int .u64 (0), .int .i64 (0), .int .u8 (0), .int .i64 (0), .int .u64 (0), .int .u64 (0), .slice none 0 0, .string (ByteArray.mk #[]), .slice none 0 0, .int .u64 (0), .int .i64 (0), .int .i64 (0), .slice none 0 0, .slice none 0 0, .int .u64 (0), .slice none 0 0]) (Sure.none rfl) rfl rfl z29 rfl (fun b44 w45 hx46 he47 hb48 => ?_)
  have hlt_b32_b44 : b32 < b44 := by have := hb36.lt; omega
  have hb49 := hb36.ext hx46 (by simp)
  have hl50 := (Sl.new (b := b44) (by show (1 : Nat) ≠ 0; decide) hl37 (by omega)).ext (Ext.any hx46)
  have hl51 := (Sl.new (b := b44) (by show (1 : Nat) ≠ 0; decide) hl38 (by omega)).ext (Ext.any hx46)
  have hl52 := (Sl.new (b := b44) (by show (4 : Nat) ≠ 0; decide) hl39 (by omega)).ext (Ext.any hx46)
  have hl53 := (Sl.new (b := b44) (by show (1 : Nat) ≠ 0; decide) hl40 (by omega)).ext (Ext.any hx46)
  have hl54 := (Sl.new (b := b44) (by show (3 : Nat) ≠ 0; decide) hl41 (by omega)).ext (Ext.any hx46)
  have hl55 := (Sl.new (b := b44) (by show (3 : Nat) ≠ 0; decide) hl42 (by omega)).ext (Ext.any hx46)
  have hx56 : Ext [b44, b32] _ _ := (Ext.cons hx43).trans (Ext.any hx46)
  have hge_b44_w : w.heap.size ≤ b44 := by have := hx43.size; omega
  refine WL.nil ?_
  refine WP.sr ?_
  refine WL.lit (R := (intR .i64)) (X := (b44 :: (b32 :: X))) (vs := []) (xs := []) (Sure.none rfl) rfl rfl u22 e3 (by show 0 < (1 : Nat); decide) (by show _ * (1 : Nat) ≤ 1024; decide) rfl rfl rfl (by intro i v x hv hx; match i, hv, hx with | i + 0, hv, _ => simp at hv) (fun v57 w58 hx59 ho60 hlit61 => ?_)
  have hno62 : ∀ g, (v57).ownBlock = some g → g ∉ (b44 :: (b32 :: X)) := by intro g hg hm; have h1 := hlit61 g hg; have h2 := (inCons hb48.lt (inCons hb49.lt (inMono hX hx56.size))) g hm; omega
  have hsz63 : w.heap.size ≤ w45.heap.size := hx56.size
  have hx64 : Ext [b44, b32] w w58 := hx56.trans (Ext.any (Y := [b44, b32]) hx59)
  have hx65 : Ext [b44, b32] w45 w58 := (Ext.any (Y := [b44, b32]) hx59)
  have hb66 := hb49.ext hx59 (by simp)
  have hb67 := hb48.ext hx59 (by simp)
  have ho68 := ho60.low (B' := w45.heap.size) (Nat.le_refl _)
  refine WL.f (v1) fl29_1 rfl p22 (hb66.cell rfl) ?_
  refine WL.appendOwn (R := (intR .i64)) (X := (b44 :: (b32 :: X))) (B := w45.heap.size) (xs := []) (ys := p.Members) (Sure.none rfl) rfl rfl u22 e3 rfl (by show 0 < (1 : Nat); decide) rfl rfl ho68 (hl50.ext (Ext.pre hx65)) (fun g hg => (Sl.new (by show (1 : Nat) ≠ 0; decide) hl50 (Nat.le_trans (Nat.le_refl _) (ho68.lt g hg).1)).ext (Ext.cons (Ext.pre hx65))) hx65.size (by first | (have h1 := hF.mem; have h2 := hF.base; have h3 := hF.votes; have h4 := hF.follows; simp only [List.length_nil, maxLen]; omega) | (have h1 := hF.acks k (by omega); simp only [List.length_nil, maxLen]; omega) | (simp only [List.length_nil, List.length_cons, maxLen]; have := hF.reads; omega)) (by first | (have h1 := hF.mem; have h2 := hF.base; have h3 := hF.votes; have h4 := hF.follows; simp only [List.length_nil, maxLen]; omega) | (have h1 := hF.acks k (by omega); simp only [List.length_nil, maxLen]; omega) | (simp only [List.length_nil, List.length_cons, maxLen]; have := hF.reads; omega)) (fun v69 w70 ho71 hg72 hf73 => ?_)
  have hno74 := after_no hf73 hno62 (inCons hb67.lt (inCons hb66.lt (inMono hX hx64.size)))
  have hx75 := Ext.ownB (hx64) hg72 (fun k hk => (Owns.lt ho68 k hk).1) hsz63
  have hx76 := Ext.ownB (hx65) hg72 (fun k hk => (Owns.lt ho68 k hk).1) (Nat.le_refl _)
  have hb77 := hb66.grown hg72 (fun g hg e => hno62 g hg (by simp [e]))
  have hb78 := hb67.grown hg72 (fun g hg e => hno62 g hg (by simp [e]))
  have ho71 := ho71.castE (List.nil_append _)
  refine WL.z (.pointer (some ⟨b32, 1, none⟩)) (V.fieldAddr rfl fl29_1 rfl) ?_
  have hl79 := Owns.sl' ho71 hno74
  refine WL.store (Sure.none rfl) rfl rfl s22 rfl rfl hl79.one hb77 (by show (1 : Nat) < 18; decide) (fun w80 hs81 hb82 => ?_)
  replace hb82 : Box w80 b32 29 [.int .i64 (p.Id), v69, .int .u64 (p.Term), .int .i64 (p.Vote), .int .u8 (p.Role), .int .i64 (p.Lead), .int .u64 (p.Base), .int .u64 (p.BaseTerm), v3, .string (p.Snap), v5, .int .u64 (p.Commit), .int .i64 (p.Idle), .int .i64 (p.Wait), v7, v9, .int .u64 (p.Round), v11] := hb82
  have hb83 := hb78.ext hs81 (by simp; omega)
  have hx84 : Ext [b44, b32] w w80 := hx75.trans (hs81.mono (by simp))
  have hx85 : Ext [b44, b32] w45 w80 := hx76.trans (hs81.mono (by simp))
  have hx86 : Ext [b44, b32] w70 w80 := (hs81.mono (by simp))
  refine WL.nil ?_
  refine WP.sr ?_
  refine WL.lit (R := (intR .i64)) (X := (b44 :: (b32 :: X))) (vs := []) (xs := []) (Sure.none rfl) rfl rfl u22 e3 (by show 0 < (1 : Nat); decide) (by show _ * (1 : Nat) ≤ 1024; decide) rfl rfl rfl (by intro i v x hv hx; match i, hv, hx with | i + 0, hv, _ => simp at hv) (fun v87 w88 hx89 ho90 hlit91 => ?_)
  have hno92 : ∀ g, (v87).ownBlock = some g → g ∉ (b44 :: (b32 :: X)) := by intro g hg hm; have h1 := hlit91 g hg; have h2 := (inCons hb83.lt (inCons hb82.lt (inMono hX hx84.size))) g hm; omega
  have hsz93 : w.heap.size ≤ w80.heap.size := hx84.size
  have hsz94 : w45.heap.size ≤ w80.heap.size := hx85.size
  have hsz95 : w70.heap.size ≤ w80.heap.size := hx86.size
  have hx96 : Ext [b44, b32] w w88 := hx84.trans (Ext.any (Y := [b44, b32]) hx89)
  have hx97 : Ext [b44, b32] w45 w88 := hx85.trans (Ext.any (Y := [b44, b32]) hx89)
  have hx98 : Ext [b44, b32] w70 w88 := hx86.trans (Ext.any (Y := [b44, b32]) hx89)
  have hx99 : Ext [b44, b32] w80 w88 := (Ext.any (Y := [b44, b32]) hx89)
  have hb100 := hb82.ext hx89 (by simp)
  have hb101 := hb83.ext hx89 (by simp)
  have ho102 := ho90.low (B' := w80.heap.size) (Nat.le_refl _)
  refine WL.f (v3) fl29_8 rfl p22 (hb100.cell rfl) ?_
  refine WL.appendOwn (R := (intR .i64)) (X := (b44 :: (b32 :: X))) (B := w80.heap.size) (xs := []) (ys := p.BaseMembers) (Sure.none rfl) rfl rfl u22 e3 rfl (by show 0 < (1 : Nat); decide) rfl rfl ho102 (hl51.ext (Ext.pre hx97)) (fun g hg => (Sl.new (by show (1 : Nat) ≠ 0; decide) hl51 (Nat.le_trans hsz94 (ho102.lt g hg).1)).ext (Ext.cons (Ext.pre hx97))) hx99.size (by first | (have h1 := hF.mem; have h2 := hF.base; have h3 := hF.votes; have h4 := hF.follows; simp only [List.length_nil, maxLen]; omega) | (have h1 := hF.acks k (by omega); simp only [List.length_nil, maxLen]; omega) | (simp only [List.length_nil, List.length_cons, maxLen]; have := hF.reads; omega)) (by first | (have h1 := hF.mem; have h2 := hF.base; have h3 := hF.votes; have h4 := hF.follows; simp only [List.length_nil, maxLen]; omega) | (have h1 := hF.acks k (by omega); simp only [List.length_nil, maxLen]; omega) | (simp only [List.length_nil, List.length_cons, maxLen]; have := hF.reads; omega)) (fun v103 w104 ho105 hg106 hf107 => ?_)
  have hno108 := after_no hf107 hno92 (inCons hb101.lt (inCons hb100.lt (inMono hX hx96.size)))
  have hx109 := Ext.ownB (hx96) hg106 (fun k hk => (Owns.lt ho102 k hk).1) hsz93
  have hx110 := Ext.ownB (hx97) hg106 (fun k hk => (Owns.lt ho102 k hk).1) hsz94
  have hx111 := Ext.ownB (hx98) hg106 (fun k hk => (Owns.lt ho102 k hk).1) hsz95
  have hx112 := Ext.ownB (hx99) hg106 (fun k hk => (Owns.lt ho102 k hk).1) (Nat.le_refl _)
  have hb113 := hb100.grown hg106 (fun g hg e => hno92 g hg (by simp [e]))
  have hb114 := hb101.grown hg106 (fun g hg e => hno92 g hg (by simp [e]))
  have ho105 := ho105.castE (List.nil_append _)
  refine WL.z (.pointer (some ⟨b32, 8, none⟩)) (V.fieldAddr rfl fl29_8 rfl) ?_
  have hl115 := Owns.sl' ho105 hno108
  refine WL.store (Sure.none rfl) rfl rfl s22 rfl rfl hl115.one hb113 (by show (8 : Nat) < 18; decide) (fun w116 hs117 hb118 => ?_)
  replace hb118 : Box w116 b32 29 [.int .i64 (p.Id), v69, .int .u64 (p.Term), .int .i64 (p.Vote), .int .u8 (p.Role), .int .i64 (p.Lead), .int .u64 (p.Base), .int .u64 (p.BaseTerm), v103, .string (p.Snap), v5, .int .u64 (p.Commit), .int .i64 (p.Idle), .int .i64 (p.Wait), v7, v9, .int .u64 (p.Round), v11] := hb118
  have hb119 := hb114.ext hs117 (by simp; omega)
  have hx120 : Ext [b44, b32] w w116 := hx109.trans (hs117.mono (by simp))
  have hx121 : Ext [b44, b32] w45 w116 := hx110.trans (hs117.mono (by simp))
  have hx122 : Ext [b44, b32] w70 w116 := hx111.trans (hs117.mono (by simp))
  have hx123 : Ext [b44, b32] w80 w116 := hx112.trans (hs117.mono (by simp))
  have hx124 : Ext [b44, b32] w104 w116 := (hs117.mono (by simp))
  refine WL.nil ?_
  refine WP.sr ?_
  refine WL.lit (R := (intR .i64)) (X := (b44 :: (b32 :: X))) (vs := []) (xs := []) (Sure.none rfl) rfl rfl u22 e3 (by show 0 < (1 : Nat); decide) (by show _ * (1 : Nat) ≤ 1024; decide) rfl rfl rfl (by intro i v x hv hx; match i, hv, hx with | i + 0, hv, _ => simp at hv) (fun v125 w126 hx127 ho128 hlit129 => ?_)
  have hno130 : ∀ g, (v125).ownBlock = some g → g ∉ (b44 :: (b32 :: X)) := by intro g hg hm; have h1 := hlit129 g hg; have h2 := (inCons hb119.lt (inCons hb118.lt (inMono hX hx120.size))) g hm; omega
  have hsz131 : w.heap.size ≤ w116.heap.size := hx120.size
  have hsz132 : w45.heap.size ≤ w116.heap.size := hx121.size
  have hsz133 : w70.heap.size ≤ w116.heap.size := hx122.size
  have hsz134 : w80.heap.size ≤ w116.heap.size := hx123.size
  have hsz135 : w104.heap.size ≤ w116.heap.size := hx124.size
  have hx136 : Ext [b44, b32] w w126 := hx120.trans (Ext.any (Y := [b44, b32]) hx127)
  have hx137 : Ext [b44, b32] w45 w126 := hx121.trans (Ext.any (Y := [b44, b32]) hx127)
  have hx138 : Ext [b44, b32] w70 w126 := hx122.trans (Ext.any (Y := [b44, b32]) hx127)
  have hx139 : Ext [b44, b32] w80 w126 := hx123.trans (Ext.any (Y := [b44, b32]) hx127)
  have hx140 : Ext [b44, b32] w104 w126 := hx124.trans (Ext.any (Y := [b44, b32]) hx127)
  have hx141 : Ext [b44, b32] w116 w126 := (Ext.any (Y := [b44, b32]) hx127)
  have hb142 := hb118.ext hx127 (by simp)
  have hb143 := hb119.ext hx127 (by simp)
  have ho144 := ho128.low (B' := w116.heap.size) (Nat.le_refl _)
  refine WL.f (v7) fl29_14 rfl p22 (hb142.cell rfl) ?_
  refine WL.appendOwn (R := (intR .i64)) (X := (b44 :: (b32 :: X))) (B := w116.heap.size) (xs := []) (ys := p.Votes) (Sure.none rfl) rfl rfl u22 e3 rfl (by show 0 < (1 : Nat); decide) rfl rfl ho144 (hl53.ext (Ext.pre hx137)) (fun g hg => (Sl.new (by show (1 : Nat) ≠ 0; decide) hl53 (Nat.le_trans hsz132 (ho144.lt g hg).1)).ext (Ext.cons (Ext.pre hx137))) hx141.size (by first | (have h1 := hF.mem; have h2 := hF.base; have h3 := hF.votes; have h4 := hF.follows; simp only [List.length_nil, maxLen]; omega) | (have h1 := hF.acks k (by omega); simp only [List.length_nil, maxLen]; omega) | (simp only [List.length_nil, List.length_cons, maxLen]; have := hF.reads; omega)) (by first | (have h1 := hF.mem; have h2 := hF.base; have h3 := hF.votes; have h4 := hF.follows; simp only [List.length_nil, maxLen]; omega) | (have h1 := hF.acks k (by omega); simp only [List.length_nil, maxLen]; omega) | (simp only [List.length_nil, List.length_cons, maxLen]; have := hF.reads; omega)) (fun v145 w146 ho147 hg148 hf149 => ?_)
  have hno150 := after_no hf149 hno130 (inCons hb143.lt (inCons hb142.lt (inMono hX hx136.size)))
  have hx151 := Ext.ownB (hx136) hg148 (fun k hk => (Owns.lt ho144 k hk).1) hsz131
  have hx152 := Ext.ownB (hx137) hg148 (fun k hk => (Owns.lt ho144 k hk).1) hsz132
  have hx153 := Ext.ownB (hx138) hg148 (fun k hk => (Owns.lt ho144 k hk).1) hsz133
  have hx154 := Ext.ownB (hx139) hg148 (fun k hk => (Owns.lt ho144 k hk).1) hsz134
  have hx155 := Ext.ownB (hx140) hg148 (fun k hk => (Owns.lt ho144 k hk).1) hsz135
  have hx156 := Ext.ownB (hx141) hg148 (fun k hk => (Owns.lt ho144 k hk).1) (Nat.le_refl _)
  have hb157 := hb142.grown hg148 (fun g hg e => hno130 g hg (by simp [e]))
  have hb158 := hb143.grown hg148 (fun g hg e => hno130 g hg (by simp [e]))
  have ho147 := ho147.castE (List.nil_append _)
  refine WL.z (.pointer (some ⟨b32, 14, none⟩)) (V.fieldAddr rfl fl29_14 rfl) ?_
  have hl159 := Owns.sl' ho147 hno150
  refine WL.store (Sure.none rfl) rfl rfl s22 rfl rfl hl159.one hb157 (by show (14 : Nat) < 18; decide) (fun w160 hs161 hb162 => ?_)
  replace hb162 : Box w160 b32 29 [.int .i64 (p.Id), v69, .int .u64 (p.Term), .int .i64 (p.Vote), .int .u8 (p.Role), .int .i64 (p.Lead), .int .u64 (p.Base), .int .u64 (p.BaseTerm), v103, .string (p.Snap), v5, .int .u64 (p.Commit), .int .i64 (p.Idle), .int .i64 (p.Wait), v145, v9, .int .u64 (p.Round), v11] := hb162
  have hb163 := hb158.ext hs161 (by simp; omega)
  have hx164 : Ext [b44, b32] w w160 := hx151.trans (hs161.mono (by simp))
  have hx165 : Ext [b44, b32] w45 w160 := hx152.trans (hs161.mono (by simp))
  have hx166 : Ext [b44, b32] w70 w160 := hx153.trans (hs161.mono (by simp))
  have hx167 : Ext [b44, b32] w80 w160 := hx154.trans (hs161.mono (by simp))
  have hx168 : Ext [b44, b32] w104 w160 := hx155.trans (hs161.mono (by simp))
  have hx169 : Ext [b44, b32] w116 w160 := hx156.trans (hs161.mono (by simp))
  have hx170 : Ext [b44, b32] w146 w160 := (hs161.mono (by simp))
  refine WL.nil ?_
  refine WP.sr ?_
  refine WL.f (v5) fl29_10 rfl p25 (hb162.cell rfl) ?_
  refine WL.c (Sure.none rfl) rfl (C.call1 rfl cl91 rfl) (Fnc.mono (ref_OwnEntries (hl52.ext (Ext.pre hx165)) (by omega) (by assumption) (X := (b44 :: (b32 :: X))) (inCons hb163.lt (inCons hb162.lt (inMono hX hx164.size)))) ?_)
  rintro v173 w171 ⟨_, rfl, hl174, hx172⟩
  have hx175 : Ext [b44, b32] w w171 := hx164.trans (Ext.any (Y := [b44, b32]) hx172)
  have hx176 : Ext [b44, b32] w45 w171 := hx165.trans (Ext.any (Y := [b44, b32]) hx172)
  have hx177 : Ext [b44, b32] w70 w171 := hx166.trans (Ext.any (Y := [b44, b32]) hx172)
  have hx178 : Ext [b44, b32] w80 w171 := hx167.trans (Ext.any (Y := [b44, b32]) hx172)
  have hx179 : Ext [b44, b32] w104 w171 := hx168.trans (Ext.any (Y := [b44, b32]) hx172)
  have hx180 : Ext [b44, b32] w116 w171 := hx169.trans (Ext.any (Y := [b44, b32]) hx172)
  have hx181 : Ext [b44, b32] w146 w171 := hx170.trans (Ext.any (Y := [b44, b32]) hx172)
  have hx182 : Ext [b44, b32] w160 w171 := (Ext.any (Y := [b44, b32]) hx172)
  have hb183 := hb162.ext hx172 (by simp)
  have hb184 := hb163.ext hx172 (by simp)
  refine WL.z (.pointer (some ⟨b32, 10, none⟩)) (V.fieldAddr rfl fl29_10 rfl) ?_
  refine WL.store (Sure.none rfl) rfl rfl s25 rfl rfl hl174.one hb183 (by show (10 : Nat) < 18; decide) (fun w185 hs186 hb187 => ?_)
  replace hb187 : Box w185 b32 29 [.int .i64 (p.Id), v69, .int .u64 (p.Term), .int .i64 (p.Vote), .int .u8 (p.Role), .int .i64 (p.Lead), .int .u64 (p.Base), .int .u64 (p.BaseTerm), v103, .string (p.Snap), v173, .int .u64 (p.Commit), .int .i64 (p.Idle), .int .i64 (p.Wait), v145, v9, .int .u64 (p.Round), v11] := hb187
  have hb188 := hb184.ext hs186 (by simp; omega)
  have hx189 : Ext [b44, b32] w w185 := hx175.trans (hs186.mono (by simp))
  have hx190 : Ext [b44, b32] w45 w185 := hx176.trans (hs186.mono (by simp))
  have hx191 : Ext [b44, b32] w70 w185 := hx177.trans (hs186.mono (by simp))
  have hx192 : Ext [b44, b32] w80 w185 := hx178.trans (hs186.mono (by simp))
  have hx193 : Ext [b44, b32] w104 w185 := hx179.trans (hs186.mono (by simp))
  have hx194 : Ext [b44, b32] w116 w185 := hx180.trans (hs186.mono (by simp))
  have hx195 : Ext [b44, b32] w146 w185 := hx181.trans (hs186.mono (by simp))
  have hx196 : Ext [b44, b32] w160 w185 := hx182.trans (hs186.mono (by simp))
  have hx197 : Ext [b44, b32] w171 w185 := (hs186.mono (by simp))
  refine WL.nil ?_
  refine WP.sr ?_
  refine WL.lit (R := followR) (X := (b44 :: (b32 :: X))) (vs := []) (xs := []) (Sure.none rfl) rfl rfl u26 e85 (by show 0 < (3 : Nat); decide) (by show _ * (3 : Nat) ≤ 1024; decide) rfl rfl rfl (by intro i v x hv hx; match i, hv, hx with | i + 0, hv, _ => simp at hv) (fun v198 w199 hx200 ho201 hlit202 => ?_)
  have hno203 : ∀ g, (v198).ownBlock = some g → g ∉ (b44 :: (b32 :: X)) := by intro g hg hm; have h1 := hlit202 g hg; have h2 := (inCons hb188.lt (inCons hb187.lt (inMono hX hx189.size))) g hm; omega
  have hsz204 : w.heap.size ≤ w185.heap.size := hx189.size
  have hsz205 : w45.heap.size ≤ w185.heap.size := hx190.size
  have hsz206 : w70.heap.size ≤ w185.heap.size := hx191.size
  have hsz207 : w80.heap.size ≤ w185.heap.size := hx192.size
  have hsz208 : w104.heap.size ≤ w185.heap.size := hx193.size
  have hsz209 : w116.heap.size ≤ w185.heap.size := hx194.size
  have hsz210 : w146.heap.size ≤ w185.heap.size := hx195.size
  have hsz211 : w160.heap.size ≤ w185.heap.size := hx196.size
  have hsz212 : w171.heap.size ≤ w185.heap.size := hx197.size
  have hx213 : Ext [b44, b32] w w199 := hx189.trans (Ext.any (Y := [b44, b32]) hx200)
  have hx214 : Ext [b44, b32] w45 w199 := hx190.trans (Ext.any (Y := [b44, b32]) hx200)
  have hx215 : Ext [b44, b32] w70 w199 := hx191.trans (Ext.any (Y := [b44, b32]) hx200)
  have hx216 : Ext [b44, b32] w80 w199 := hx192.trans (Ext.any (Y := [b44, b32]) hx200)
  have hx217 : Ext [b44, b32] w104 w199 := hx193.trans (Ext.any (Y := [b44, b32]) hx200)
  have hx218 : Ext [b44, b32] w116 w199 := hx194.trans (Ext.any (Y := [b44, b32]) hx200)
  have hx219 : Ext [b44, b32] w146 w199 := hx195.trans (Ext.any (Y := [b44, b32]) hx200)
  have hx221 : Ext [b44, b32] w171 w199 := hx197.trans (Ext.any (Y := [b44, b32]) hx200)
  have hx222 : Ext [b44, b32] w185 w199 := (Ext.any (Y := [b44, b32]) hx200)
  have hb223 := hb187.ext hx200 (by simp)
  have hb224 := hb188.ext hx200 (by simp)
  have ho225 := ho201.low (B' := w185.heap.size) (Nat.le_refl _)
  refine WL.f (v9) fl29_15 rfl p26 (hb223.cell rfl) ?_
  refine WL.appendOwn (R := followR) (X := (b44 :: (b32 :: X))) (B := w185.heap.size) (xs := []) (ys := p.Follows) (Sure.none rfl) rfl rfl u26 e85 rfl (by show 0 < (3 : Nat); decide) rfl rfl ho225 (hl54.ext (Ext.pre hx214)) (fun g hg => (Sl.new (by show (3 : Nat) ≠ 0; decide) hl54 (Nat.le_trans hsz205 (ho225.lt g hg).1)).ext (Ext.cons (Ext.pre hx214))) hx222.size (by first | (have h1 := hF.mem; have h2 := hF.base; have h3 := hF.votes; have h4 := hF.follows; simp only [List.length_nil, maxLen]; omega) | (have h1 := hF.acks k (by omega); simp only [List.length_nil, maxLen]; omega) | (simp only [List.length_nil, List.length_cons, maxLen]; have := hF.reads; omega)) (by first | (have h1 := hF.mem; have h2 := hF.base; have h3 := hF.votes; have h4 := hF.follows; simp only [List.length_nil, maxLen]; omega) | (have h1 := hF.acks k (by omega); simp only [List.length_nil, maxLen]; omega) | (simp only [List.length_nil, List.length_cons, maxLen]; have := hF.reads; omega)) (fun v226 w227 ho228 hg229 hf230 => ?_)
  have hno231 := after_no hf230 hno203 (inCons hb224.lt (inCons hb223.lt (inMono hX hx213.size)))
  have hx232 := Ext.ownB (hx213) hg229 (fun k hk => (Owns.lt ho225 k hk).1) hsz204
  have hx233 := Ext.ownB (hx214) hg229 (fun k hk => (Owns.lt ho225 k hk).1) hsz205
  have hx234 := Ext.ownB (hx215) hg229 (fun k hk => (Owns.lt ho225 k hk).1) hsz206
  have hx235 := Ext.ownB (hx216) hg229 (fun k hk => (Owns.lt ho225 k hk).1) hsz207
  have hx236 := Ext.ownB (hx217) hg229 (fun k hk => (Owns.lt ho225 k hk).1) hsz208
  have hx237 := Ext.ownB (hx218) hg229 (fun k hk => (Owns.lt ho225 k hk).1) hsz209
  have hx238 := Ext.ownB (hx219) hg229 (fun k hk => (Owns.lt ho225 k hk).1) hsz210
  have hx240 := Ext.ownB (hx221) hg229 (fun k hk => (Owns.lt ho225 k hk).1) hsz212
  have hx241 := Ext.ownB (hx222) hg229 (fun k hk => (Owns.lt ho225 k hk).1) (Nat.le_refl _)
  have hb242 := hb223.grown hg229 (fun g hg e => hno203 g hg (by simp [e]))
  have hb243 := hb224.grown hg229 (fun g hg e => hno203 g hg (by simp [e]))
  have ho228 := ho228.castE (List.nil_append _)
  refine WL.z (.pointer (some ⟨b32, 15, none⟩)) (V.fieldAddr rfl fl29_15 rfl) ?_
  have hl244 := Owns.sl' ho228 hno231
  refine WL.store (Sure.none rfl) rfl rfl s26 rfl rfl hl244.one hb242 (by show (15 : Nat) < 18; decide) (fun w245 hs246 hb247 => ?_)
  replace hb247 : Box w245 b32 29 [.int .i64 (p.Id), v69, .int .u64 (p.Term), .int .i64 (p.Vote), .int .u8 (p.Role), .int .i64 (p.Lead), .int .u64 (p.Base), .int .u64 (p.BaseTerm), v103, .string (p.Snap), v173, .int .u64 (p.Commit), .int .i64 (p.Idle), .int .i64 (p.Wait), v145, v226, .int .u64 (p.Round), v11] := hb247
  have hb248 := hb243.ext hs246 (by simp; omega)
  have hx249 : Ext [b44, b32] w w245 := hx232.trans (hs246.mono (by simp))
  have hx250 : Ext [b44, b32] w45 w245 := hx233.trans (hs246.mono (by simp))
  have hx251 : Ext [b44, b32] w70 w245 := hx234.trans (hs246.mono (by simp))
  have hx252 : Ext [b44, b32] w80 w245 := hx235.trans (hs246.mono (by simp))
  have hx253 : Ext [b44, b32] w104 w245 := hx236.trans (hs246.mono (by simp))
  have hx254 : Ext [b44, b32] w116 w245 := hx237.trans (hs246.mono (by simp))
  have hx255 : Ext [b44, b32] w146 w245 := hx238.trans (hs246.mono (by simp))
  have hx257 : Ext [b44, b32] w171 w245 := hx240.trans (hs246.mono (by simp))
  have hx258 : Ext [b44, b32] w185 w245 := hx241.trans (hs246.mono (by simp))
  have hx259 : Ext [b44, b32] w227 w245 := (hs246.mono (by simp))
  refine WL.nil ?_
  refine WP.sr ?_
  refine WL.m rfl ?_
  refine WL.nil ?_
  refine WP.seq ?_
  refine WP.sr ?_
  refine WL.m rfl ?_
  refine WL.nil ?_
  refine WP.block ?_
  have hsz262 : w.heap.size ≤ w245.heap.size := hx249.size
  have hsz263 : w45.heap.size ≤ w245.heap.size := hx250.size
  have hsz264 : w80.heap.size ≤ w245.heap.size := hx252.size
  have hsz265 : w116.heap.size ≤ w245.heap.size := hx254.size
  have hsz266 : w185.heap.size ≤ w245.heap.size := hx258.size
  refine WP.loop (σ := Nat) (fun k E260 w261 => E260 0 = .agg #[.int .i64 (p.Id), v1, .int .u64 (p.Term), .int .i64 (p.Vote), .int .u8 (p.Role), .int .i64 (p.Lead), .int .u64 (p.Base), .int .u64 (p.BaseTerm), v3, .string (p.Snap), v5, .int .u64 (p.Commit), .int .i64 (p.Idle), .int .i64 (p.Wait), v7, v9, .int .u64 (p.Round), v11] ∧ E260 1 = .pointer (some ⟨b32, 0, none⟩) ∧ E260 2 = .pointer (some ⟨b44, 0, none⟩) ∧ E260 4 = .int .i64 ((k : Int)) ∧ E260 7 = .pointer (some ⟨b32, 1, none⟩) ∧ E260 8 = v1 ∧ E260 9 = v69 ∧ E260 10 = .pointer (some ⟨b32, 1, none⟩) ∧ E260 12 = .pointer (some ⟨b32, 8, none⟩) ∧ E260 13 = v3 ∧ E260 14 = v103 ∧ E260 15 = .pointer (some ⟨b32, 8, none⟩) ∧ E260 17 = .pointer (some ⟨b32, 14, none⟩) ∧ E260 18 = v7 ∧ E260 19 = v145 ∧ E260 20 = .pointer (some ⟨b32, 14, none⟩) ∧ E260 21 = .pointer (some ⟨b32, 10, none⟩) ∧ E260 22 = v5 ∧ E260 23 = v173 ∧ E260 24 = .pointer (some ⟨b32, 10, none⟩) ∧ E260 26 = .pointer (some ⟨b32, 15, none⟩) ∧ E260 27 = v9 ∧ E260 28 = v226 ∧ E260 29 = .pointer (some ⟨b32, 15, none⟩) ∧ Ext [b44, b32] w245 w261 ∧ Box w261 b32 29 [.int .i64 (p.Id), v69, .int .u64 (p.Term), .int .i64 (p.Vote), .int .u8 (p.Role), .int .i64 (p.Lead), .int .u64 (p.Base), .int .u64 (p.BaseTerm), v103, .string (p.Snap), v173, .int .u64 (p.Commit), .int .i64 (p.Idle), .int .i64 (p.Wait), v145, v226, .int .u64 (p.Round), v11] ∧ Box w261 b44 29 [.int .i64 (0), .slice none 0 0, .int .u64 (0), .int .i64 (0), .int .u8 (0), .int .i64 (0), .int .u64 (0), .int .u64 (0), .slice none 0 0, .string (ByteArray.mk #[]), .slice none 0 0, .int .u64 (0), .int .i64 (0), .int .i64 (0), .slice none 0 0, .slice none 0 0, .int .u64 (0), .slice none 0 0] ∧ (Owns readR 95 w245.heap.size (b44 :: (b32 :: X)) w261 (E260 3) (p.Reads.take k) ∧ (∀ g, (E260 3).ownBlock = some g → g ∉ (b44 :: (b32 :: X)))) ∧ k ≤ p.Reads.length) (fun k => p.Reads.length - k) (0) ?_ ?_
  · exact ⟨h0, rfl, rfl, (int_eq (by omega)), rfl, rfl, rfl, rfl, rfl, rfl, rfl, rfl, rfl, rfl, rfl, rfl, rfl, rfl, rfl, rfl, rfl, rfl, rfl, rfl, Ext.refl _ _, hb247, hb248, ⟨(Owns.castE (by rfl) Owns.nil), (nil_block rfl)⟩, (by omega)⟩
  rintro k E260 w261 ⟨h0_267, h1_267, h2_267, h4_267, h7_267, h8_267, h9_267, h10_267, h12_267, h13_267, h14_267, h15_267, h17_267, h18_267, h19_267, h20_267, h21_267, h22_267, h23_267, h24_267, h26_267, h27_267, h28_267, h29_267, hx267, hbb32_267, hbb44_267, ⟨ho3_267, ho3_267n⟩, hi0_267⟩
  have hx268 : Ext [b44, b32] w w261 := hx249.trans hx267
  have hx269 : Ext [b44, b32] w45 w261 := hx250.trans hx267
  have hx270 : Ext [b44, b32] w70 w261 := hx251.trans hx267
  have hx271 : Ext [b44, b32] w80 w261 := hx252.trans hx267
  have hx272 : Ext [b44, b32] w104 w261 := hx253.trans hx267
  have hx273 : Ext [b44, b32] w116 w261 := hx254.trans hx267
  have hx274 : Ext [b44, b32] w146 w261 := hx255.trans hx267
  have hx276 : Ext [b44, b32] w171 w261 := hx257.trans hx267
  have hx277 : Ext [b44, b32] w185 w261 := hx258.trans hx267
  have hx278 : Ext [b44, b32] w227 w261 := hx259.trans hx267
  have hx279 : Ext [b44, b32] w245 w261 := hx267
  have htk : (p.Reads.take k).length ≤ k := List.length_take_le _ _
  refine WP.seq ?_
  refine WP.sr ?_
  refine WL.m rfl ?_
  refine WL.f (x := .tmp 1) (v11) fl29_17 h1_267 p27 (hbb32_267.cell rfl) ?_
  obtain ⟨a280, c281, hv282⟩ := hl55.shape
  refine WL.z (.int .i64 (((p.Reads).length : Int))) (V.lenSlice rfl rfl u27 (Eq.trans (b := v11) rfl hv282)) ?_
  refine WL.z (.bool (decide ((k : Int) < ((p.Reads).length : Int)))) (V.cmp (x := .tmp 30) rfl h4_267 rfl rfl) ?_
  refine WL.nil ?_
  refine WP.condp (t := (k : Int) < ((p.Reads).length : Int)) rfl (fun hc283 => ?_) (fun hc283 => ?_)
  rotate_left
  · refine WP.exit ?_
    refine WP.sr ?_
    refine WL.m rfl ?_
    refine WL.z (.pointer (some ⟨b32, 17, none⟩)) (V.fieldAddr (x := .tmp 1) rfl fl29_17 h1_267) ?_
    have hl446 := Owns.sl' ho3_267 ho3_267n
    refine WL.store (Sure.none rfl) rfl rfl s27 rfl rfl hl446.one hbb32_267 (by show (17 : Nat) < 18; decide) (fun w447 hs448 hb449 => ?_)
    replace hb449 : Box w447 b32 29 [.int .i64 (p.Id), v69, .int .u64 (p.Term), .int .i64 (p.Vote), .int .u8 (p.Role), .int .i64 (p.Lead), .int .u64 (p.Base), .int .u64 (p.BaseTerm), v103, .string (p.Snap), v173, .int .u64 (p.Commit), .int .i64 (p.Idle), .int .i64 (p.Wait), v145, v226, .int .u64 (p.Round), E260 3] := hb449
    have hb450 := hbb44_267.ext hs448 (by simp; omega)
    have hx451 : Ext [b44, b32] w w447 := hx268.trans (hs448.mono (by simp))
    have hx453 : Ext [b44, b32] w70 w447 := hx270.trans (hs448.mono (by simp))
    have hx455 : Ext [b44, b32] w104 w447 := hx272.trans (hs448.mono (by simp))
    have hx457 : Ext [b44, b32] w146 w447 := hx274.trans (hs448.mono (by simp))
    have hx459 : Ext [b44, b32] w171 w447 := hx276.trans (hs448.mono (by simp))
    have hx461 : Ext [b44, b32] w227 w447 := hx278.trans (hs448.mono (by simp))
    have hx463 : Ext [b44, b32] w261 w447 := (hs448.mono (by simp))
    refine WL.nil ?_
    refine WP.sr ?_
    refine WL.z (.agg #[.int .i64 (p.Id), v69, .int .u64 (p.Term), .int .i64 (p.Vote), .int .u8 (p.Role), .int .i64 (p.Lead), .int .u64 (p.Base), .int .u64 (p.BaseTerm), v103, .string (p.Snap), v173, .int .u64 (p.Commit), .int .i64 (p.Idle), .int .i64 (p.Wait), v145, v226, .int .u64 (p.Round), E260 3]) (V.loadAgg (x := .tmp 1) (cs := [.int .i64 (p.Id), v69, .int .u64 (p.Term), .int .i64 (p.Vote), .int .u8 (p.Role), .int .i64 (p.Lead), .int .u64 (p.Base), .int .u64 (p.BaseTerm), v103, .string (p.Snap), v173, .int .u64 (p.Commit), .int .i64 (p.Idle), .int .i64 (p.Wait), v145, v226, .int .u64 (p.Round), E260 3]) rfl a29 h1_267 (At.box hb449) rfl) ?_
    refine WL.storeAgg (x := .tmp 2) (vs := [.int .i64 (p.Id), v69, .int .u64 (p.Term), .int .i64 (p.Vote), .int .u8 (p.Role), .int .i64 (p.Lead), .int .u64 (p.Base), .int .u64 (p.BaseTerm), v103, .string (p.Snap), v173, .int .u64 (p.Commit), .int .i64 (p.Idle), .int .i64 (p.Wait), v145, v226, .int .u64 (p.Round), E260 3]) (Sure.none rfl) rfl rfl s29 h2_267 rfl rfl (by intro u hu; simp only [List.mem_cons, List.not_mem_nil, or_false] at hu; rcases hu with rfl | rfl | rfl | rfl | rfl | rfl | rfl | rfl | rfl | rfl | rfl | rfl | rfl | rfl | rfl | rfl | rfl | rfl <;> first | rfl | exact Sl.one (by assumption)) hb450 (by show (0 : Nat) + 18 ≤ 18; decide) (fun w465 hs466 hb467 => ?_)
    replace hb467 : Box w465 b44 29 [.int .i64 (p.Id), v69, .int .u64 (p.Term), .int .i64 (p.Vote), .int .u8 (p.Role), .int .i64 (p.Lead), .int .u64 (p.Base), .int .u64 (p.BaseTerm), v103, .string (p.Snap), v173, .int .u64 (p.Commit), .int .i64 (p.Idle), .int .i64 (p.Wait), v145, v226, .int .u64 (p.Round), E260 3] := hb467
    have hx469 : Ext [b44, b32] w w465 := hx451.trans (hs466.mono (by simp))
    have hx471 : Ext [b44, b32] w70 w465 := hx453.trans (hs466.mono (by simp))
    have hx473 : Ext [b44, b32] w104 w465 := hx455.trans (hs466.mono (by simp))
    have hx475 : Ext [b44, b32] w146 w465 := hx457.trans (hs466.mono (by simp))
    have hx477 : Ext [b44, b32] w171 w465 := hx459.trans (hs466.mono (by simp))
    have hx479 : Ext [b44, b32] w227 w465 := hx461.trans (hs466.mono (by simp))
    have hx481 : Ext [b44, b32] w261 w465 := hx463.trans (hs466.mono (by simp))
    refine WL.nil ?_
    refine WP.ret ?_
    refine resOf.c1 rfl (v := .agg #[.int .i64 (p.Id), v69, .int .u64 (p.Term), .int .i64 (p.Vote), .int .u8 (p.Role), .int .i64 (p.Lead), .int .u64 (p.Base), .int .u64 (p.BaseTerm), v103, .string (p.Snap), v173, .int .u64 (p.Commit), .int .i64 (p.Idle), .int .i64 (p.Wait), v145, v226, .int .u64 (p.Round), E260 3]) ⟨_, _, h2_267, run_loadVar_agg a29 (At.box hb467) rfl⟩ ?_
    exact ⟨[.int .i64 (p.Id), v69, .int .u64 (p.Term), .int .i64 (p.Vote), .int .u8 (p.Role), .int .i64 (p.Lead), .int .u64 (p.Base), .int .u64 (p.BaseTerm), v103, .string (p.Snap), v173, .int .u64 (p.Commit), .int .i64 (p.Idle), .int .i64 (p.Wait), v145, v226, .int .u64 (p.Round), E260 3], rfl, (Rep.base (O := [b44, b32]) (castRd (R := peerR) (show (({ Id := p.Id, Members := p.Members, Term := p.Term, Vote := p.Vote, Role := p.Role, Lead := p.Lead, Base := p.Base, BaseTerm := p.BaseTerm, BaseMembers := p.BaseMembers, Snap := p.Snap, Log := p.Log, Commit := p.Commit, Idle := p.Idle, Wait := p.Wait, Votes := p.Votes, Follows := p.Follows, Round := p.Round, Reads := p.Reads.take k } : PeerD) : PeerD) = p from (by rw [List.take_of_length_le (by omega)])) ⟨v69, v103, v173, v145, v226, E260 3, rfl, (hl79.ext (Ext.pre hx471)), (hl115.ext (Ext.pre hx473)), (hl174.ext (Ext.pre hx477)), (hl159.ext (Ext.pre hx475)), (hl244.ext (Ext.pre hx479)), (hl446.ext (Ext.pre hx481)), ⟨(inK_i64' (n := p.Id) (by omega)), (inK_u64' (n := p.Term) (by omega)), (inK_i64' (n := p.Vote) (by omega)), (inK_u8' (n := p.Role) (by omega)), (inK_i64' (n := p.Lead) (by omega)), (inK_u64' (n := p.Base) (by omega)), (inK_u64' (n := p.BaseTerm) (by omega)), (by show (p.Snap).size ≤ maxLen; omega), (inK_u64' (n := p.Commit) (by omega)), (inK_i64' (n := p.Idle) (by omega)), (inK_i64' (n := p.Wait) (by omega)), (inK_u64' (n := p.Round) (by omega))⟩⟩)), ((hx469).done (geCons hge_b44_w (geCons hge_b32_w geNil)))⟩
  refine WP.skip ?_
  refine WP.seq ?_
  refine WP.block ?_
  refine WP.sr ?_
  refine WL.f (x := .tmp 1) (v11) fl29_17 h1_267 p27 (hbb32_267.cell rfl) ?_
  refine WL.m rfl ?_
  have hlt292 : k < (p.Reads).length := by first | omega | (simp at *; omega)
  obtain ⟨b284, k285, c286, cs287, hv288, hnb289, hr290, hat291⟩ := (hl55.ext (Ext.pre hx269)).get (i := k) (x := (p.Reads.getD k default)) (getD_some hlt292 _)
  obtain ⟨v293, rfl, hl294, hk295⟩ := hr290
  obtain ⟨hin296, hin297⟩ := (show ReadD.InR (p.Reads.getD k default) from hk295)
  have hin296 := inK_u64 hin296
  have hin297 := inK_u64 hin297
  have hle298 := hl294.le'
  refine WL.z (.pointer (some ⟨b284, k285 + k * 3, none⟩)) (V.indexAddr (i := .tmp 39) (m := k) (j := (k : Int)) rfl u27 s95 (Eq.trans (b := v11) rfl hv288) h4_267 rfl hlt292) ?_
  refine WL.z (.agg #[.int .u64 ((p.Reads.getD k default).Round), .int .u64 ((p.Reads.getD k default).Index), v293]) (V.loadAgg (cs := [.int .u64 ((p.Reads.getD k default).Round), .int .u64 ((p.Reads.getD k default).Index), v293]) rfl a95 rfl hat291 rfl) ?_
  refine WL.alloc (cs := [.int .u64 (0), .int .u64 (0), .slice none 0 0]) (Sure.none rfl) rfl rfl z95 rfl (fun b299 w300 hx301 he302 hb303 => ?_)
  have hlt_b32_b299 : b32 < b299 := by have := hbb32_267.lt; omega
  have hb304 := hbb32_267.ext hx301 (by simp)
  have hlt_b44_b299 : b44 < b299 := by have := hbb44_267.lt; omega
  have hb305 := hbb44_267.ext hx301 (by simp)
  have ho306 := (Owns.new (b := b299) ho3_267 (by omega)).keep hx301 (by intro g hg hm; simp at hm) (by simp)
  have hno307 : ∀ g, (E260 3).ownBlock = some g → g ∉ (b299 :: (b44 :: (b32 :: X))) := fun g hg hm => (List.mem_cons.1 hm).elim (fun h => by have := (ho3_267.lt g hg).2; omega) (fun h => ho3_267n g hg h)
  have hl319 := (Sl.new (b := b299) (by show (1 : Nat) ≠ 0; decide) hl294 (by omega)).ext (Ext.any hx301)
  have hx320 : Ext [b299, b44, b32] _ _ := (Ext.cons hx268).trans (Ext.any hx301)
  have hx321 : Ext [b299, b44, b32] _ _ := (Ext.cons hx269).trans (Ext.any hx301)
  have hx322 : Ext [b299, b44, b32] _ _ := (Ext.cons hx271).trans (Ext.any hx301)
  have hx323 : Ext [b299, b44, b32] _ _ := (Ext.cons hx273).trans (Ext.any hx301)
  have hx324 : Ext [b299, b44, b32] _ _ := (Ext.cons hx277).trans (Ext.any hx301)
  have hx325 : Ext [b299, b44, b32] _ _ := (Ext.cons hx279).trans (Ext.any hx301)
  have hge_b299_w : w.heap.size ≤ b299 := by have := hx268.size; omega
  have hge_b299_w45 : w45.heap.size ≤ b299 := by have := hx269.size; omega
  have hge_b299_w80 : w80.heap.size ≤ b299 := by have := hx271.size; omega
  have hge_b299_w116 : w116.heap.size ≤ b299 := by have := hx273.size; omega
  have hge_b299_w185 : w185.heap.size ≤ b299 := by have := hx277.size; omega
  have hge_b299_w245 : w245.heap.size ≤ b299 := by have := hx279.size; omega
  refine WL.storeAgg (vs := [.int .u64 ((p.Reads.getD k default).Round), .int .u64 ((p.Reads.getD k default).Index), v293]) (Sure.none rfl) rfl rfl s95 rfl rfl rfl (by intro u hu; simp only [List.mem_cons, List.not_mem_nil, or_false] at hu; rcases hu with rfl | rfl | rfl <;> first | rfl | exact Sl.one (by assumption)) hb303 (by show (0 : Nat) + 3 ≤ 3; decide) (fun w326 hs327 hb328 => ?_)
  replace hb328 : Box w326 b299 95 [.int .u64 ((p.Reads.getD k default).Round), .int .u64 ((p.Reads.getD k default).Index), v293] := hb328
  have hb329 := hb304.ext hs327 (by simp; omega)
  have hb330 := hb305.ext hs327 (by simp; omega)
  have hx331 : Ext [b299, b44, b32] w w326 := hx320.trans (hs327.mono (by simp))
  have hx332 : Ext [b299, b44, b32] w45 w326 := hx321.trans (hs327.mono (by simp))
  have hx333 : Ext [b299, b44, b32] w80 w326 := hx322.trans (hs327.mono (by simp))
  have hx334 : Ext [b299, b44, b32] w116 w326 := hx323.trans (hs327.mono (by simp))
  have hx335 : Ext [b299, b44, b32] w185 w326 := hx324.trans (hs327.mono (by simp))
  have hx336 : Ext [b299, b44, b32] w245 w326 := hx325.trans (hs327.mono (by simp))
  have hx337 : Ext [b299, b44, b32] w300 w326 := (hs327.mono (by simp))
  have ho338 := Owns.keep (Y := [b299, b44, b32]) ho306 (hs327.mono (by simp)) (fun g hg hm => hno307 g hg (mem_pre (O := [b299, b44, b32]) (X := X) hm)) (fun b hb => mem_pre (O := [b299, b44, b32]) (X := X) hb)
  refine WL.nil ?_
  refine WP.sr ?_
  refine WL.lit (R := (intR .i64)) (X := (b299 :: (b44 :: (b32 :: X)))) (vs := []) (xs := []) (Sure.none rfl) rfl rfl u22 e3 (by show 0 < (1 : Nat); decide) (by show _ * (1 : Nat) ≤ 1024; decide) rfl rfl rfl (by intro i v x hv hx; match i, hv, hx with | i + 0, hv, _ => simp at hv) (fun v339 w340 hx341 ho342 hlit343 => ?_)
  have hno344 : ∀ g, (v339).ownBlock = some g → g ∉ (b299 :: (b44 :: (b32 :: X))) := by intro g hg hm; have h1 := hlit343 g hg; have h2 := (inCons hb328.lt (inCons hb330.lt (inCons hb329.lt (inMono hX hx331.size)))) g hm; omega
  have hsz345 : w.heap.size ≤ w326.heap.size := hx331.size
  have hsz346 : w45.heap.size ≤ w326.heap.size := hx332.size
  have hsz347 : w80.heap.size ≤ w326.heap.size := hx333.size
  have hsz348 : w116.heap.size ≤ w326.heap.size := hx334.size
  have hsz349 : w185.heap.size ≤ w326.heap.size := hx335.size
  have hsz350 : w245.heap.size ≤ w326.heap.size := hx336.size
  have hsz351 : w300.heap.size ≤ w326.heap.size := hx337.size
  have hx352 : Ext [b299, b44, b32] w w340 := hx331.trans (Ext.any (Y := [b299, b44, b32]) hx341)
  have hx353 : Ext [b299, b44, b32] w45 w340 := hx332.trans (Ext.any (Y := [b299, b44, b32]) hx341)
  have hx354 : Ext [b299, b44, b32] w80 w340 := hx333.trans (Ext.any (Y := [b299, b44, b32]) hx341)
  have hx355 : Ext [b299, b44, b32] w116 w340 := hx334.trans (Ext.any (Y := [b299, b44, b32]) hx341)
  have hx356 : Ext [b299, b44, b32] w185 w340 := hx335.trans (Ext.any (Y := [b299, b44, b32]) hx341)
  have hx357 : Ext [b299, b44, b32] w245 w340 := hx336.trans (Ext.any (Y := [b299, b44, b32]) hx341)
  have hx358 : Ext [b299, b44, b32] w300 w340 := hx337.trans (Ext.any (Y := [b299, b44, b32]) hx341)
  have hx359 : Ext [b299, b44, b32] w326 w340 := (Ext.any (Y := [b299, b44, b32]) hx341)
  have hb360 := hb329.ext hx341 (by simp)
  have hb361 := hb330.ext hx341 (by simp)
  have hb362 := hb328.ext hx341 (by simp)
  have ho364 := ho342.low (B' := w326.heap.size) (Nat.le_refl _)
  refine WL.f (v293) fl95_2 rfl p22 (hb362.cell rfl) ?_
  refine WL.appendOwn (R := (intR .i64)) (X := (b299 :: (b44 :: (b32 :: X)))) (B := w326.heap.size) (xs := []) (ys := (p.Reads.getD k default).Acks) (Sure.none rfl) rfl rfl u22 e3 rfl (by show 0 < (1 : Nat); decide) rfl rfl ho364 (hl319.ext (Ext.pre hx358)) (fun g hg => (Sl.new (by show (1 : Nat) ≠ 0; decide) hl319 (Nat.le_trans hsz351 (ho364.lt g hg).1)).ext (Ext.cons (Ext.pre hx358))) hx359.size (by first | (have h1 := hF.mem; have h2 := hF.base; have h3 := hF.votes; have h4 := hF.follows; simp only [List.length_nil, maxLen]; omega) | (have h1 := hF.acks k (by omega); simp only [List.length_nil, maxLen]; omega) | (simp only [List.length_nil, List.length_cons, maxLen]; have := hF.reads; omega)) (by first | (have h1 := hF.mem; have h2 := hF.base; have h3 := hF.votes; have h4 := hF.follows; simp only [List.length_nil, maxLen]; omega) | (have h1 := hF.acks k (by omega); simp only [List.length_nil, maxLen]; omega) | (simp only [List.length_nil, List.length_cons, maxLen]; have := hF.reads; omega)) (fun v365 w366 ho367 hg368 hf369 => ?_)
  have hno370 := after_no hf369 hno344 (inCons hb362.lt (inCons hb361.lt (inCons hb360.lt (inMono hX hx352.size))))
  have hx371 := Ext.ownB (hx352) hg368 (fun k hk => (Owns.lt ho364 k hk).1) hsz345
  have hx372 := Ext.ownB (hx353) hg368 (fun k hk => (Owns.lt ho364 k hk).1) hsz346
  have hx373 := Ext.ownB (hx354) hg368 (fun k hk => (Owns.lt ho364 k hk).1) hsz347
  have hx374 := Ext.ownB (hx355) hg368 (fun k hk => (Owns.lt ho364 k hk).1) hsz348
  have hx375 := Ext.ownB (hx356) hg368 (fun k hk => (Owns.lt ho364 k hk).1) hsz349
  have hx376 := Ext.ownB (hx357) hg368 (fun k hk => (Owns.lt ho364 k hk).1) hsz350
  have hx377 := Ext.ownB (hx358) hg368 (fun k hk => (Owns.lt ho364 k hk).1) hsz351
  have hx378 := Ext.ownB (hx359) hg368 (fun k hk => (Owns.lt ho364 k hk).1) (Nat.le_refl _)
  have hb379 := hb360.grown hg368 (fun g hg e => hno344 g hg (by simp [e]))
  have hb380 := hb361.grown hg368 (fun g hg e => hno344 g hg (by simp [e]))
  have hb381 := hb362.grown hg368 (fun g hg e => hno344 g hg (by simp [e]))
  have ho382 := Owns.keep (Y := [b299, b44, b32]) ho338 (hx378) (fun g hg hm => hno307 g hg (mem_pre (O := [b299, b44, b32]) (X := X) hm)) (fun b hb => mem_pre (O := [b299, b44, b32]) (X := X) hb)
  have ho367 := ho367.castE (List.nil_append _)
  refine WL.z (.pointer (some ⟨b299, 2, none⟩)) (V.fieldAddr rfl fl95_2 rfl) ?_
  have hl383 := Owns.sl' ho367 hno370
  have hf384 := Owns.far (T := E260 3) (flat_int _) ho367 hno370 (fun g hg => (ho338.lt g hg).2)
  refine WL.store (Sure.none rfl) rfl rfl s22 rfl rfl hl383.one hb381 (by show (2 : Nat) < 3; decide) (fun w385 hs386 hb387 => ?_)
  replace hb387 : Box w385 b299 95 [.int .u64 ((p.Reads.getD k default).Round), .int .u64 ((p.Reads.getD k default).Index), v365] := hb387
  have hb388 := hb379.ext hs386 (by simp; omega)
  have hb389 := hb380.ext hs386 (by simp; omega)
  have hx390 : Ext [b299, b44, b32] w w385 := hx371.trans (hs386.mono (by simp))
  have hx391 : Ext [b299, b44, b32] w45 w385 := hx372.trans (hs386.mono (by simp))
  have hx392 : Ext [b299, b44, b32] w80 w385 := hx373.trans (hs386.mono (by simp))
  have hx393 : Ext [b299, b44, b32] w116 w385 := hx374.trans (hs386.mono (by simp))
  have hx394 : Ext [b299, b44, b32] w185 w385 := hx375.trans (hs386.mono (by simp))
  have hx395 : Ext [b299, b44, b32] w245 w385 := hx376.trans (hs386.mono (by simp))
  have hx396 : Ext [b299, b44, b32] w300 w385 := hx377.trans (hs386.mono (by simp))
  have hx397 : Ext [b299, b44, b32] w326 w385 := hx378.trans (hs386.mono (by simp))
  have hx398 : Ext [b299, b44, b32] w366 w385 := (hs386.mono (by simp))
  have ho399 := Owns.keep (Y := [b299, b44, b32]) ho382 (hs386.mono (by simp)) (fun g hg hm => hno307 g hg (mem_pre (O := [b299, b44, b32]) (X := X) hm)) (fun b hb => mem_pre (O := [b299, b44, b32]) (X := X) hb)
  refine WL.nil ?_
  refine WP.region ?_
  refine WL.m rfl ?_
  refine WL.z (.agg #[.int .u64 ((p.Reads.getD k default).Round), .int .u64 ((p.Reads.getD k default).Index), v365]) (V.loadAgg (cs := [.int .u64 ((p.Reads.getD k default).Round), .int .u64 ((p.Reads.getD k default).Index), v365]) rfl a95 rfl (At.box hb387) rfl) ?_
  refine WL.lit (R := readR) (X := (avoid (E260 3) (b299 :: (b44 :: (b32 :: X))))) (vs := [.agg #[.int .u64 ((p.Reads.getD k default).Round), .int .u64 ((p.Reads.getD k default).Index), v365]]) (xs := [({ Round := (p.Reads.getD k default).Round, Index := (p.Reads.getD k default).Index, Acks := ((p.Reads.getD k default).Acks) } : ReadD)]) (Sure.none rfl) rfl rfl u27 e95 (by show 0 < (3 : Nat); decide) (by show _ * (3 : Nat) ≤ 1024; decide) rfl rfl rfl (by intro i v x hv hx; match i, hv, hx with | 0, rfl, rfl => exact ⟨v365, rfl, (hf384.ext (Ext.avoid hx398)), ⟨(inK_u64' (n := (p.Reads.getD k default).Round) (by omega)), (inK_u64' (n := (p.Reads.getD k default).Index) (by omega))⟩⟩ | i + 1, hv, _ => simp at hv) (fun v400 w401 hx402 ho403 hlit404 => ?_)
  have hno405 : ∀ g, (v400).ownBlock = some g → g ∉ (b299 :: (b44 :: (b32 :: X))) := by intro g hg hm; have h1 := hlit404 g hg; have h2 := (inCons hb387.lt (inCons hb389.lt (inCons hb388.lt (inMono hX hx390.size)))) g hm; omega
  have hsz406 : w.heap.size ≤ w385.heap.size := hx390.size
  have hsz407 : w45.heap.size ≤ w385.heap.size := hx391.size
  have hsz408 : w80.heap.size ≤ w385.heap.size := hx392.size
  have hsz409 : w116.heap.size ≤ w385.heap.size := hx393.size
  have hsz410 : w185.heap.size ≤ w385.heap.size := hx394.size
  have hsz411 : w245.heap.size ≤ w385.heap.size := hx395.size
  have hsz412 : w300.heap.size ≤ w385.heap.size := hx396.size
  have hsz413 : w326.heap.size ≤ w385.heap.size := hx397.size
  have hsz414 : w366.heap.size ≤ w385.heap.size := hx398.size
  have hx415 : Ext [b299, b44, b32] w w401 := hx390.trans (Ext.any (Y := [b299, b44, b32]) hx402)
  have hx420 : Ext [b299, b44, b32] w245 w401 := hx395.trans (Ext.any (Y := [b299, b44, b32]) hx402)
  have hb425 := hb388.ext hx402 (by simp)
  have hb426 := hb389.ext hx402 (by simp)
  have hb427 := hb387.ext hx402 (by simp)
  have ho428 := ho399.keep hx402 (by intro g hg hm; simp at hm) (by simp)
  have ho429 := ho403.low (B' := w385.heap.size) (Nat.le_refl _)
  have hno430 := avoid_no (T := E260 3) (n := w385.heap.size) (fun g hg => Nat.le_of_eq (hlit404 g hg).symm) (fun g hg => (ho399.lt g hg).2) hno405
  refine WL.appendOwn (R := readR) (X := (b299 :: (b44 :: (b32 :: X)))) (B := w245.heap.size) (xs := p.Reads.take k) (ys := [({ Round := (p.Reads.getD k default).Round, Index := (p.Reads.getD k default).Index, Acks := ((p.Reads.getD k default).Acks) } : ReadD)]) (Sure.none rfl) rfl rfl u27 e95 rfl (by show 0 < (3 : Nat); decide) rfl rfl ho428 (Owns.sl' (Owns.mono ho429 (fun b hb => avoid_mem hb)) hno405) (fun g hg => avoid_far (Owns.sl' ho429 hno430) hg) hx420.size (by first | (have h1 := hF.mem; have h2 := hF.base; have h3 := hF.votes; have h4 := hF.follows; simp only [List.length_nil, maxLen]; omega) | (have h1 := hF.acks k (by omega); simp only [List.length_nil, maxLen]; omega) | (simp only [List.length_nil, List.length_cons, maxLen]; have := hF.reads; omega)) (by first | (have h1 := hF.mem; have h2 := hF.base; have h3 := hF.votes; have h4 := hF.follows; simp only [List.length_nil, maxLen]; omega) | (have h1 := hF.acks k (by omega); simp only [List.length_nil, maxLen]; omega) | (simp only [List.length_nil, List.length_cons, maxLen]; have := hF.reads; omega)) (fun v431 w432 ho433 hg434 hf435 => ?_)
  have hno436 := after_no hf435 hno307 (inCons hb427.lt (inCons hb426.lt (inCons hb425.lt (inMono hX hx415.size))))
  have hx442 := Ext.ownB (hx420) hg434 (fun k hk => (Owns.lt ho428 k hk).1) (Nat.le_refl _)
  have hb443 := hb425.grown hg434 (fun g hg e => hno307 g hg (by simp [e]))
  have hb444 := hb426.grown hg434 (fun g hg e => hno307 g hg (by simp [e]))
  refine WL.m rfl ?_
  refine WL.nil ?_
  refine WP.region ?_
  refine WL.m rfl ?_
  refine WL.z (.int .i64 ((k : Int) + 1)) (V.arith (x := .tmp 35) rfl h4_267 rfl rfl (wrap_i64 (by omega) (by omega))) ?_
  refine WL.m rfl ?_
  refine WL.nil ?_
  exact ⟨k + 1, ⟨h0_267, h1_267, h2_267, (int_eq (by omega)), h7_267, h8_267, h9_267, h10_267, h12_267, h13_267, h14_267, h15_267, h17_267, h18_267, h19_267, h20_267, h21_267, h22_267, h23_267, h24_267, h26_267, h27_267, h28_267, h29_267, (Ext.drop hx442 hge_b299_w245), hb443, hb444, ⟨(Owns.castE (by exact take_step (by omega)) (Owns.base (O := [b299]) ho433)), (base_no (O := [b299]) hno436)⟩, (by omega)⟩, (by omega)⟩

end Go.Proofs.Ytbpamkbegggeoaa.T
