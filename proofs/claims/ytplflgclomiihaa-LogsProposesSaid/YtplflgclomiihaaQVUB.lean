/- Contracts. -/
import Derived.Test.YtplflgclomiihaaQVUA
set_option linter.unusedVariables false
set_option linter.unusedSimpArgs false
namespace Go.Proofs.Ytplflgclomiihaa.XT
open Go Go.RowKit Go.Proofs.Ytplflgclomiihaa.Sv
structure AdvH (a:D):Prop where
 ids:(a.fld 15).list.map (fun f=>(f.fld 0).int)=((a.fld 1).list.filter fun d=>!decide (d.int=(a.fld 0).int)).map D.int
 dist:((a.fld 1).list.map D.int).Nodup
 mt:∀ f ∈ (a.fld 15).list,(f.fld 2).int ≤ ((lastIf (D.int (D.fld a 6)) (D.list (D.fld a 10))))
 mono:∀ i j,(a.fld 11).int < i → i ≤ j → j ≤ ((lastIf (D.int (D.fld a 6)) (D.list (D.fld a 10)))) → termI a i ≤ termI a j∧termI a j ≤ (a.fld 2).int
theorem desc_count {i:Int}:∀ {S:List Int},S.Pairwise (fun x y=>y ≤ x) → ∀ (k:Nat) (hk:k < S.length),i ≤ S[k] ↔ k < S.countP (fun x=>decide (i ≤ x))
 | [],_,k,hk=>by simp at hk
 | x :: r,h,k,hk=>by
  obtain ⟨h1,h2⟩:=List.pairwise_cons.1 h
  have zero:¬ i ≤ x → r.countP (fun x=>decide (i ≤ x))=0:=fun hx=>List.countP_eq_zero.2 fun y hy=>by
   have:=h1 y hy
   simp; omega
  rw [List.countP_cons]
  cases k with
  | zero =>
   show i ≤ x ↔ _
   by_cases hx:i ≤ x
   ·simp [hx]
   ·simp [hx,zero hx]
  | succ k =>
   have hk':k < r.length:=by simpa using hk
   have ih:=desc_count (i:=i) h2 k hk'
   show i ≤ r[k] ↔ _
   rw [ih]
   by_cases hx:i ≤ x
   ·simp [hx]
   ·simp [hx,zero hx]
theorem matL_mem:∀ {fs:List D},(fs.map fun f=>(f.fld 0).int).Nodup → ∀ f ∈ fs,matL fs (f.fld 0).int=(f.fld 2).int
 | [],_,f,h=>by cases h
 | g :: r,hd,f,h=>by
  rw [List.map_cons,List.nodup_cons] at hd
  rcases List.mem_cons.1 h with rfl | h
  ·rw [matL,if_pos rfl]
  ·rw [matL,if_neg (fun e:(g.fld 0).int=(f.fld 0).int=>hd.1 (List.mem_map.2 ⟨f,h,e.symm⟩))]
   exact matL_mem hd.2 f h
theorem split_count {n:Int} {p:D → Bool}:∀ (ms:List D),ms.countP p=(ms.filter fun d=>!decide (d.int=n)).countP p + (ms.filter fun d=>decide (d.int=n)).countP p
 | []=>rfl
 | d :: r=>by
  have ih:=split_count (n:=n) (p:=p) r
  by_cases h:d.int=n
  ·simp only [List.filter_cons,List.countP_cons,h,decide_true,Bool.not_true,if_true,ih]
   simp; omega
  ·simp only [List.filter_cons,List.countP_cons,h,decide_false,Bool.not_false,if_true,ih]
   simp; omega
theorem split_len {n:Int}:∀ (ms:List D),ms.length=(ms.filter fun d=>!decide (d.int=n)).length + (ms.filter fun d=>decide (d.int=n)).length
 | []=>rfl
 | d :: r=>by
  have ih:=split_len (n:=n) r
  by_cases h:d.int=n
  ·simp [List.filter_cons,h,ih]; omega
  ·simp [List.filter_cons,h,ih]; omega
theorem count_id {n : Int} : ∀ {ms : List D}, (ms.map D.int).Nodup → (ms.filter fun d => decide (d.int = n)).length = bif inL ms n then 1 else 0
  | [], _ => rfl
  | d :: r, h => by
    rw [List.map_cons, List.nodup_cons] at h
    by_cases e : d.int = n
    · have hz : r.filter (fun d => decide (d.int = n)) = [] := by
        rw [List.filter_eq_nil_iff]
        intro x hx
        have : x.int ≠ n := fun k => h.1 (by rw [e, ← k]; exact List.mem_map.2 ⟨x, hx, rfl⟩)
        simp [this]
      have hi : inL (d :: r) n = true := by simp [inL, e]
      rw [List.filter_cons, if_pos (by simp [e]), hz, hi]; rfl
    · have hi : inL (d :: r) n = inL r n := by simp [inL, e]
      rw [List.filter_cons, if_neg (by simp [e]), hi]
      exact count_id h.2
theorem cnt_have {id last i:Int} {fol ms:List D}:cntL ms (haveF id last fol i ms)=ms.countP fun x=>decide (i ≤ matF id last fol x.int):=by
 unfold cntL
 apply List.countP_congr
 intro x hx
 rw [inL,List.any_eq_true]
 constructor
 ·rintro ⟨d,hd,he⟩
  have he:=of_decide_eq_true he
  obtain ⟨y,hy,rfl⟩:=List.mem_map.1 hd
  have:=(List.mem_filter.1 hy).2
  have he:y.int=x.int:=he
  rwa [he] at this
 ·intro h
  exact ⟨_,List.mem_map.2 ⟨x,List.mem_filter.2 ⟨hx,h⟩,rfl⟩,decide_eq_true rfl⟩
section
variable {a : D} (h : AdvH a)
include h
theorem AdvH.fids:((a.fld 15).list.map fun f=>(f.fld 0).int).Nodup:=by
 rw [h.ids]
 exact List.Nodup.sublist ((List.filter_sublist).map D.int) h.dist
theorem AdvH.len:(a.fld 1).list.length=(haveL a).length:=by
 have e1:(a.fld 15).list.length=((a.fld 1).list.filter fun d=>!decide (d.int=(a.fld 0).int)).length:=by
  have:=congrArg List.length h.ids
  simpa using this
 rw [split_len (n:=(a.fld 0).int) (a.fld 1).list,count_id h.dist,← e1]
 unfold haveL
 rw [List.length_append,List.length_map]
 cases inL (a.fld 1).list (a.fld 0).int <;> rfl
theorem AdvH.cnt (i : Int) : (a.fld 1).list.countP (fun x => decide (i ≤ matF (a.fld 0).int (((lastIf (D.int (D.fld a 6)) (D.list (D.fld a 10))))) (a.fld 15).list x.int)) = (haveL a).countP fun d => decide (i ≤ d.int) := by
  rw [split_count (n := (a.fld 0).int) (a.fld 1).list]
  unfold haveL
  rw [List.countP_append]
  congr 1
  · have e1 : ((a.fld 1).list.filter fun d => !decide (d.int = (a.fld 0).int)).countP (fun x => decide (i ≤ matF (a.fld 0).int (((lastIf (D.int (D.fld a 6)) (D.list (D.fld a 10))))) (a.fld 15).list x.int)) = (((a.fld 1).list.filter fun d => !decide (d.int = (a.fld 0).int)).map D.int).countP (fun n => decide (i ≤ matF (a.fld 0).int (((lastIf (D.int (D.fld a 6)) (D.list (D.fld a 10))))) (a.fld 15).list n)) := by
      rw [List.countP_map]; rfl
    rw [e1, ← h.ids, List.countP_map, List.countP_map]
    apply List.countP_congr
    intro f hf
    have hne : (f.fld 0).int ≠ (a.fld 0).int := by
      have hm : (f.fld 0).int ∈ (a.fld 15).list.map (fun f => (f.fld 0).int) := List.mem_map.2 ⟨f, hf, rfl⟩
      rw [h.ids] at hm
      obtain ⟨d, hd, he⟩ := List.mem_map.1 hm
      have := (List.mem_filter.1 hd).2
      rw [← he]
      simpa using this
    have hm : matF (a.fld 0).int (((lastIf (D.int (D.fld a 6)) (D.list (D.fld a 10))))) (a.fld 15).list (f.fld 0).int = (f.fld 2).int := by
      unfold matF
      rw [decide_eq_false hne, cond_false]
      exact matL_mem h.fids f hf
    show decide (i ≤ matF (a.fld 0).int (((lastIf (D.int (D.fld a 6)) (D.list (D.fld a 10))))) (a.fld 15).list (f.fld 0).int) = true ↔ decide (i ≤ (f.fld 2).int) = true
    rw [hm]
  · have e1 : ((a.fld 1).list.filter fun d => decide (d.int = (a.fld 0).int)).countP (fun x => decide (i ≤ matF (a.fld 0).int (((lastIf (D.int (D.fld a 6)) (D.list (D.fld a 10))))) (a.fld 15).list x.int)) = ((a.fld 1).list.filter fun d => decide (d.int = (a.fld 0).int)).countP (fun _ => decide (i ≤ ((lastIf (D.int (D.fld a 6)) (D.list (D.fld a 10)))))) := by
      apply List.countP_congr
      intro x hx
      have hx := (List.mem_filter.1 hx).2
      have : matF (a.fld 0).int (((lastIf (D.int (D.fld a 6)) (D.list (D.fld a 10))))) (a.fld 15).list x.int = ((lastIf (D.int (D.fld a 6)) (D.list (D.fld a 10)))) := by unfold matF; rw [hx]; rfl
      rw [this]
    rw [e1]
    have hl := count_id (n := (a.fld 0).int) h.dist
    cases hi : inL (a.fld 1).list (a.fld 0).int with
    | false =>
      rw [hi] at hl
      rw [List.eq_nil_of_length_eq_zero hl]; rfl
    | true =>
      rw [hi] at hl
      obtain ⟨x, hx⟩ := List.length_eq_one_iff.1 hl
      rw [hx]; rfl
theorem AdvH.cond (i:Int):condR a i=(decide (termI a i=(a.fld 2).int) && (decide ((a.fld 1).list.length / 2 < (haveL a).length) && decide (i ≤ midN a))):=by
 unfold condR condF
 congr 1
 rw [cnt_have,h.cnt i]
 have hS:((haveL a).map D.int).mergeSort (fun x y=>decide (y ≤ x)) |>.Pairwise (fun x y=>y ≤ x):=by
  have:=List.pairwise_mergeSort (le:=fun x y:Int=>decide (y ≤ x)) (fun x y z h1 h2=>by simp at *; omega) (fun x y=>by simp; omega) ((haveL a).map D.int)
  exact this.imp (fun h=>of_decide_eq_true h)
 have hc:(haveL a).countP (fun d=>decide (i ≤ d.int))=(((haveL a).map D.int).mergeSort (fun x y=>decide (y ≤ x))).countP (fun x=>decide (i ≤ x)):=by
  rw [(List.mergeSort_perm _ _).countP_eq,List.countP_map]; rfl
 have hlen:(((haveL a).map D.int).mergeSort (fun x y=>decide (y ≤ x))).length=(haveL a).length:=by simp [List.length_mergeSort]
 rw [hc]
 have hL:=h.len
 have hle:=List.countP_le_length (p:=fun x=>decide (i ≤ x)) (l:=((haveL a).map D.int).mergeSort (fun x y=>decide (y ≤ x)))
 by_cases hk:(a.fld 1).list.length / 2 < (haveL a).length
 ·have hk':(a.fld 1).list.length / 2 < (((haveL a).map D.int).mergeSort (fun x y=>decide (y ≤ x))).length:=by rw [hlen]; exact hk
  have hd:=desc_count (i:=i) hS _ hk'
  have hm:midN a=(((haveL a).map D.int).mergeSort (fun x y=>decide (y ≤ x)))[(a.fld 1).list.length / 2]:=by
   unfold midN; rw [descL_eq]; unfold sortI
   rw [nthD_get (List.getElem?_eq_getElem (by simpa using hk'))]
   simp [D.int]
  rw [decide_eq_true hk,Bool.true_and,Bool.eq_iff_iff,decide_eq_true_iff,decide_eq_true_iff,hm,hd]
  omega
 ·rw [decide_eq_false hk,Bool.false_and,decide_eq_false_iff_not]
  omega
theorem AdvH.mid_le (hk:(a.fld 1).list.length / 2 < (haveL a).length):midN a ≤ ((lastIf (D.int (D.fld a 6)) (D.list (D.fld a 10)))):=by
 have hl':(a.fld 1).list.length / 2 < (descL (haveL a)).length:=by rw [descL_len]; exact hk
 obtain ⟨x,hx,hxe⟩:=descL_mem (List.mem_of_getElem? (get_nthD hl'))
 unfold midN
 rw [hxe]
 unfold haveL at hx
 rcases List.mem_append.1 hx with hx | hx
 ·obtain ⟨f,h1,rfl⟩:=List.mem_map.1 hx
  exact h.mt f h1
 ·cases hi:inL (a.fld 1).list (a.fld 0).int with
  | false=>rw [hi] at hx; cases hx
  | true =>
   rw [hi,cond_true,List.mem_singleton] at hx
   subst hx
   exact Int.le_refl _
theorem advR_eq:advR a=advN a:=by
 unfold advR advN
 cases hr:decide ((a.fld 4).int=2) with
 | false=>rfl
 | true =>
 rw [cond_true,Bool.true_and]
 cases hk:decide ((a.fld 1).list.length / 2 < (haveL a).length) with
 | false =>
  rw [Bool.false_and,Bool.false_and,cond_false]
  exact scan_none fun j _ _=>by rw [h.cond,hk,Bool.false_and,Bool.and_false]
 | true =>
 have hmid:=h.mid_le (of_decide_eq_true hk)
 rw [Bool.true_and]
 cases hc:decide ((a.fld 11).int < midN a) with
 | false =>
  have hc:=of_decide_eq_false hc
  rw [Bool.false_and,cond_false]
  exact scan_none fun j h1 h2=>by rw [h.cond,decide_eq_false (show ¬ j ≤ midN a by omega),Bool.and_false,Bool.and_false]
 | true =>
  have hc:=of_decide_eq_true hc
  rw [Bool.true_and]
  cases ht:decide (termI a (midN a)=(a.fld 2).int) with
  | true =>
   rw [cond_true]
   exact scan_hit hc (by omega) (by rw [h.cond,ht,hk,decide_eq_true (Int.le_refl _)]; rfl) (fun j h1 h2=>by rw [h.cond,decide_eq_false (show ¬ j ≤ midN a by omega),Bool.and_false,Bool.and_false])
  | false =>
   have ht:=of_decide_eq_false ht
   rw [cond_false]
   refine scan_none fun j h1 h2=>?_
   rw [h.cond]
   by_cases hj:j ≤ midN a
   ·obtain ⟨m1,m2⟩:=h.mono j (midN a) h1 hj hmid
    rw [decide_eq_false (show ¬ termI a j=(a.fld 2).int by omega),Bool.false_and]
   ·rw [decide_eq_false hj,Bool.and_false,Bool.and_false]
end
end Go.Proofs.Ytplflgclomiihaa.XT
