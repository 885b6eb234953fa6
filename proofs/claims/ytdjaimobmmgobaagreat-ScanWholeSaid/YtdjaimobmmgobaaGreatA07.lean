import Derived.Test.YtdjaimobmmgobaaGreatA06
set_option linter.unusedSimpArgs false
set_option linter.unusedVariables false
namespace Go.Ev.Pl
open Go Go.Ev Go.Proofs
set_option maxRecDepth 100000
def mS:List Int:=List.replicate 97 0++1 :: List.replicate 158 0
def st97:zb:=⟨0,8589934592,0,0⟩
theorem spl_star:splF [st97] 256=(mS,2):=by kernel_rfl
theorem least_star:leastM mS 2=[0,97]:=by kernel_rfl
theorem wid_star:widM mS=2:=by kernel_rfl
theorem us_star:usF mS 2=[0,1]:=by kernel_rfl
def dS:zZ:={ Map:=mS,Rows:=[[-1,1],[-1,1]],Accept:=[-1,0],Start:=[0,0] }
theorem small_star:smallM dS [0,1]=dS:=by kernel_rfl
theorem mS_mem:∀ x∈mS,0≤x∧x < 2:=by
 intro x hx
 simp only [mS,List.mem_append,List.mem_cons] at hx
 rcases hx with h | h | h
 ·have:=List.eq_of_mem_replicate h;omega
 ·omega
 ·have:=List.eq_of_mem_replicate h;omega
theorem mS_len:mS.length=256:=by simp [mS]
theorem splS_ok:zce [st97] mS 2:=by
 have:=split02_ok (l:=[st97]) (by simp)
 rwa [spl_star] at this
theorem leastS_ok:zcf mS 2 [0,97]:=by
 have:=least02_ok (m:=mS) (n:=2) (by rw [mS_len];omega) (by omega)
 rwa [least_star] at this
theorem usedS_ok:zcx mS [0,1]:=by
 have:=used_ok (m:=mS) (N:=2) (by rw [mS_len];omega) (fun x hx=>by have:=mS_mem x hx;omega) wid_star (by omega)
 rwa [us_star] at this
theorem dS_db:DB dS where
 rl:=by show 2≤500;omega
 al:=rfl
 ml:=mS_len
 sl:=by show 2≤16;omega
 mapr:=fun x hx=>by have:=mS_mem x hx;omega
 acc:=by decide
 start:=by decide
 rows:=by
  intro r hr
  have hw:widM dS.Map=2:=wid_star
  rw [hw]
  have:r=[-1,1]:=by simpa [dS] using hr
  subst this
  exact ⟨rfl,by decide⟩
end Go.Ev.Pl
