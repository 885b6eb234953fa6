import Derived.Test.YtkeiahjelpjegaaGreatA09
set_option linter.unusedSimpArgs false
set_option linter.unusedVariables false
namespace Go.Ev.Pl
open Go Go.Ev Go.Proofs
theorem small_of {a:zh} (g:Gd a):Small a:=fun l hl=>by
 have:InR a l:=g.rise l hl
 have:=this.len g;omega
theorem autoMade_ok (l t:List Int) (hl:Bytes l) (ht:Bytes t) (from0:Int):zbL l t from0 true:=by
 obtain ⟨s,hm,hs,-⟩:=made6_ok l hl false
 obtain ⟨w,hw,hwz⟩:=text_ok t ht
 obtain ⟨b1,b2,b3,b4⟩:=fitBuild s hs
 obtain ⟨a,ha⟩:∃ a,a=buildM s:=⟨_,rfl⟩
 rw [← ha] at b1 b2 b3 b4
 have g:=gd_of b4
 have hR:=right_ok a (small_of g)
 rw [b4] at hR
 have hl1:=g.l1
 have hst:a.Starts.length≤16:=by
  have:=(lens_of (a:=a) (by
   unfold rightA at b4
   split at b4
   ·cases b4
   ·rename_i h;simpa using h)).2.2.2.2
  omega
 refine zdX l t from0 _ ⟨s,hm,w,hw,_,_,b1,_,_,b2,true,b3,(fun h=>by cases h),fun _=>⟨(fun h=>by cases h),fun _=>⟨(fun h=>by cases h),fun _=>⟨true,hR,(fun h=>by cases h),fun _=>?_⟩⟩⟩⟩
 refine ⟨fun p t=>∃ i:Nat,t=i∧i≤a.Sets.length∧SS p∧(∀ x∈p,0≤x∧x < (i:Int))∧p.length≤i,fun p t=>(a.Sets.length - t).toNat,⟨0,rfl,by omega,List.Pairwise.nil,(fun x h=>by cases h),by simp⟩,?_⟩
 rintro p t ⟨i,rfl,hi,h1,h2,h3⟩
 simp only [List.length_map]
 rw [zaM]
 refine ⟨fun ht=>?_,fun _=>?_⟩
 ·have ht:=of_decide_eq_true (Bool.and_eq_true_iff.1 ht).1
  rw [show w64 ((i:Int)+1)=((i+1:Nat):Int) from zK (by omega) (by omega)]
  refine ⟨fun p=>SS p∧(∀ x∈p,0≤x∧x < ((i+1:Nat):Int))∧p.length≤i+1,fun p h=>⟨⟨i+1,rfl,by omega,h.1,h.2.1,h.2.2⟩,by first | omega | (dsimp only;omega)⟩,by omega,fun _=>⟨by omega,?_,fun x hx=>?_,by simp;omega⟩,fun _=>⟨h1,fun x hx=>by have:=h2 x hx;omega,by omega⟩⟩
  ·exact ss_snoc h1 fun c hc=>(h2 c hc).2
  ·rcases List.mem_append.1 hx with hx | hx
   ·have:=h2 x hx;omega
   ·rw [List.mem_singleton.1 hx];omega
 ·have hp:InR a p:=⟨h1,fun x hx=>by have:=h2 x hx;omega⟩
  refine ⟨by omega,fun t=>∃ k:Nat,t=k∧k≤a.Starts.length+1,fun t=>(a.Starts.length+1 - t).toNat,⟨0,rfl,by omega⟩,?_⟩
  rintro t ⟨k,rfl,hk⟩
  rw [zaM]
  refine ⟨fun ht=>?_,fun _=>⟨true,awake_ok,rfl⟩⟩
  have ht:=of_decide_eq_true ht
  have hlen:(p :: a.Starts).length=a.Starts.length+1:=rfl
  have hf:InR a (gd (p :: a.Starts) (k:Int)):=by
   rw [zT (by omega)]
   cases k with
   | zero=>exact hp
   | succ k=>exact g.rise _ (List.mem_append_right _ (List.getElem_mem _))
  rw [show w64 ((k:Int)+1)=((k+1:Nat):Int) from zK (by omega) (by omega)]
  exact ⟨by omega,by rw [Int.toNat_natCast];exact ht,by rw [hlen];omega,_,_,run_ok a g hR _ hf w (by omega),_,_,run10_ok a g _ hf w (by omega),fun h=>by simp at h,fun _=>⟨⟨k+1,rfl,by omega⟩,by first | omega | (dsimp only;omega)⟩⟩
end Go.Ev.Pl
