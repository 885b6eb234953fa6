import Derived.Test.YtdjaimobmmgobaaGreatA02
import Derived.Test.YtdjaimobmmgobaaGreatProg
import Derived.Shelf.Small.Bits
import Derived.Shelf.Small.Wraps
import Derived.Shelf.Strconv.Itoa0
import Derived.Shelf.Sort.Plain
import Derived.Shelf.Slices.Turned
import Derived.Ground.Names2Prog
import Derived.Shelf.Slices.CompactI
import Derived.Shelf.Slices.SearchI
import Derived.Shelf.Slices.Cells
import Derived.Shelf.Slices.In.SortNone
import Derived.Shelf.Spec.SlicesGrow
import Derived.Lib.RowBridge
set_option linter.unusedSimpArgs false
set_option linter.unusedVariables false
namespace Go.Ev
open Go Go.Proofs
set_option maxRecDepth 8000
def za (n:Int):FV:=.pv (.int .i64 n)
theorem zgG (l:List Int):(List.map za l).all (FV.fits 1)=true:=by simp [FV.fits,FV.size,FV.cells,FV.one,za]
def zY (b:Bool):FV:=.pv (.bool b)
theorem fits_u8 (l:List Int):(List.map zF l).all (FV.fits 1)=true:=by simp [FV.fits,FV.size,FV.cells,FV.one,zF]
def enc_string (s:ByteArray):FV:=.pv (.string s)
def enc_u64 (n:Int):FV:=.pv (.int .u64 n)
def enc_i32 (n:Int):FV:=.pv (.int .i32 n)
def encs_u8 (l:(List Int)):FV:=.sl (List.map zF l)
structure zaJ where
 Name:ByteArray
 Exclusive:Bool
 deriving Inhabited,DecidableEq
abbrev zdv (x:zaJ):FV:=.agg [.pv (.string x.Name),.pv (.bool x.Exclusive)]
def zn (x:zaJ):FV:=zdv x
theorem zbO (x:zaJ):zn x=zdv x:=rfl
abbrev zju (x:zaJ):AV:=.agg [vS x.Name,vB x.Exclusive]
abbrev ao_api_Cond (x:zaJ):AV:=.agg [vS x.Name,vB x.Exclusive]
def encs_api_Cond (l:(List zaJ)):FV:=.sl (List.map zn l)
def zj (l:(List Int)):FV:=.sl (List.map za l)
structure zb where
 e0:Int
 e1:Int
 e2:Int
 e3:Int
 deriving Inhabited,DecidableEq
abbrev zcQ (x:zb):FV:=.agg [.pv (.int .u64 x.e0),.pv (.int .u64 x.e1),.pv (.int .u64 x.e2),.pv (.int .u64 x.e3)]
def zm (x:zb):FV:=zcQ x
theorem zbH (x:zb):zm x=zcQ x:=rfl
abbrev zQ (x:zb):AV:=.agg [vI .u64 x.e0,vI .u64 x.e1,vI .u64 x.e2,vI .u64 x.e3]
abbrev zjH (x:zb):AV:=.agg [vI .u64 x.e0,vI .u64 x.e1,vI .u64 x.e2,vI .u64 x.e3]
structure zf where
 Kind:Int
 Set:zb
 Lo:Int
 Hi:Int
 Kids:(List zf)
 deriving Inhabited
def zc:zf→FV
 | ⟨a_Kind,a_Set,a_Lo,a_Hi,a_Kids⟩=>.agg [.pv (.int .i64 a_Kind),.pv (.int .u64 a_Set.e0),.pv (.int .u64 a_Set.e1),.pv (.int .u64 a_Set.e2),.pv (.int .u64 a_Set.e3),.pv (.int .i64 a_Lo),.pv (.int .i64 a_Hi),.sl (List.map zc a_Kids)]
abbrev zbF (x:zf):FV:=.agg [.pv (.int .i64 x.Kind),.pv (.int .u64 x.Set.e0),.pv (.int .u64 x.Set.e1),.pv (.int .u64 x.Set.e2),.pv (.int .u64 x.Set.e3),.pv (.int .i64 x.Lo),.pv (.int .i64 x.Hi),.sl (List.map zc x.Kids)]
theorem zL (x:zf):zc x=zbF x:=by cases x;rw [zc]
theorem fits_api_Rx (l:List zf):(List.map zc l).all (FV.fits 8)=true:=by simp [FV.fits,FV.size,FV.cells,FV.one,zL]
abbrev zD (x:zf):AV:=.agg [vI .i64 x.Kind,vI .u64 x.Set.e0,vI .u64 x.Set.e1,vI .u64 x.Set.e2,vI .u64 x.Set.e3,vI .i64 x.Lo,vI .i64 x.Hi,vL zc x.Kids]
abbrev zbp (x:zf):AV:=.agg [vI .i64 x.Kind,vI .u64 x.Set.e0,vI .u64 x.Set.e1,vI .u64 x.Set.e2,vI .u64 x.Set.e3,vI .i64 x.Lo,vI .i64 x.Hi,oL 55 zc x.Kids]
structure zw where
 Conds:(List Int)
 All:Bool
 Bol:Bool
 Rx:zf
 Trail:zf
 Eof:Bool
 Act:Int
 To:Int
 deriving Inhabited
abbrev zdu (x:zw):FV:=.agg [.sl (List.map za x.Conds),.pv (.bool x.All),.pv (.bool x.Bol),.pv (.int .i64 x.Rx.Kind),.pv (.int .u64 x.Rx.Set.e0),.pv (.int .u64 x.Rx.Set.e1),.pv (.int .u64 x.Rx.Set.e2),.pv (.int .u64 x.Rx.Set.e3),.pv (.int .i64 x.Rx.Lo),.pv (.int .i64 x.Rx.Hi),.sl (List.map zc x.Rx.Kids),.pv (.int .i64 x.Trail.Kind),.pv (.int .u64 x.Trail.Set.e0),.pv (.int .u64 x.Trail.Set.e1),.pv (.int .u64 x.Trail.Set.e2),.pv (.int .u64 x.Trail.Set.e3),.pv (.int .i64 x.Trail.Lo),.pv (.int .i64 x.Trail.Hi),.sl (List.map zc x.Trail.Kids),.pv (.bool x.Eof),.pv (.int .i64 x.Act),.pv (.int .i64 x.To)]
def zg (x:zw):FV:=zdu x
theorem zaA (x:zw):zg x=zdu x:=rfl
abbrev zbg (x:zw):AV:=.agg [vL za x.Conds,vB x.All,vB x.Bol,vI .i64 x.Rx.Kind,vI .u64 x.Rx.Set.e0,vI .u64 x.Rx.Set.e1,vI .u64 x.Rx.Set.e2,vI .u64 x.Rx.Set.e3,vI .i64 x.Rx.Lo,vI .i64 x.Rx.Hi,vL zc x.Rx.Kids,vI .i64 x.Trail.Kind,vI .u64 x.Trail.Set.e0,vI .u64 x.Trail.Set.e1,vI .u64 x.Trail.Set.e2,vI .u64 x.Trail.Set.e3,vI .i64 x.Trail.Lo,vI .i64 x.Trail.Hi,vL zc x.Trail.Kids,vB x.Eof,vI .i64 x.Act,vI .i64 x.To]
abbrev ao_api_Rule (x:zw):AV:=.agg [oL 3 za x.Conds,vB x.All,vB x.Bol,vI .i64 x.Rx.Kind,vI .u64 x.Rx.Set.e0,vI .u64 x.Rx.Set.e1,vI .u64 x.Rx.Set.e2,vI .u64 x.Rx.Set.e3,vI .i64 x.Rx.Lo,vI .i64 x.Rx.Hi,oL 55 zc x.Rx.Kids,vI .i64 x.Trail.Kind,vI .u64 x.Trail.Set.e0,vI .u64 x.Trail.Set.e1,vI .u64 x.Trail.Set.e2,vI .u64 x.Trail.Set.e3,vI .i64 x.Trail.Lo,vI .i64 x.Trail.Hi,oL 55 zc x.Trail.Kids,vB x.Eof,vI .i64 x.Act,vI .i64 x.To]
def encs_api_Rule (l:(List zw)):FV:=.sl (List.map zg l)
structure zr where
 Conds:(List zaJ)
 Default:Bool
 Rules:(List zw)
 deriving Inhabited
abbrev zek (x:zr):FV:=.agg [.sl (List.map zn x.Conds),.pv (.bool x.Default),.sl (List.map zg x.Rules)]
def zhO (x:zr):FV:=zek x
theorem zjh (x:zr):zhO x=zek x:=rfl
abbrev zag (x:zr):AV:=.agg [vL zn x.Conds,vB x.Default,vL zg x.Rules]
abbrev ao_api_Spec (x:zr):AV:=.agg [oL 81 zn x.Conds,vB x.Default,oL 57 zg x.Rules]
structure zk where
 Map:(List Int)
 Width:Int
 Base:(List Int)
 Default:(List Int)
 Next:(List Int)
 Check:(List Int)
 Accept:(List Int)
 Start:(List Int)
 deriving Inhabited,DecidableEq
abbrev zdf (x:zk):FV:=.agg [.sl (List.map za x.Map),.pv (.int .i64 x.Width),.sl (List.map za x.Base),.sl (List.map za x.Default),.sl (List.map za x.Next),.sl (List.map za x.Check),.sl (List.map za x.Accept),.sl (List.map za x.Start)]
def zfJ (x:zk):FV:=zdf x
theorem zho (x:zk):zfJ x=zdf x:=rfl
abbrev zaI (x:zk):AV:=.agg [vL za x.Map,vI .i64 x.Width,vL za x.Base,vL za x.Default,vL za x.Next,vL za x.Check,vL za x.Accept,vL za x.Start]
abbrev ao_api_Packed (x:zk):AV:=.agg [oL 3 za x.Map,vI .i64 x.Width,oL 3 za x.Base,oL 3 za x.Default,oL 3 za x.Next,oL 3 za x.Check,oL 3 za x.Accept,oL 3 za x.Start]
structure zd where
 Spec:zr
 Tables:zk
 deriving Inhabited
abbrev zcR (x:zd):FV:=.agg [.sl (List.map zn x.Spec.Conds),.pv (.bool x.Spec.Default),.sl (List.map zg x.Spec.Rules),.sl (List.map za x.Tables.Map),.pv (.int .i64 x.Tables.Width),.sl (List.map za x.Tables.Base),.sl (List.map za x.Tables.Default),.sl (List.map za x.Tables.Next),.sl (List.map za x.Tables.Check),.sl (List.map za x.Tables.Accept),.sl (List.map za x.Tables.Start)]
def zcq (x:zd):FV:=zcR x
theorem zgL (x:zd):zcq x=zcR x:=rfl
abbrev zE (x:zd):AV:=.agg [vL zn x.Spec.Conds,vB x.Spec.Default,vL zg x.Spec.Rules,vL za x.Tables.Map,vI .i64 x.Tables.Width,vL za x.Tables.Base,vL za x.Tables.Default,vL za x.Tables.Next,vL za x.Tables.Check,vL za x.Tables.Accept,vL za x.Tables.Start]
abbrev zjI (x:zd):AV:=.agg [oL 81 zn x.Spec.Conds,vB x.Spec.Default,oL 57 zg x.Spec.Rules,oL 3 za x.Tables.Map,vI .i64 x.Tables.Width,oL 3 za x.Tables.Base,oL 3 za x.Tables.Default,oL 3 za x.Tables.Next,oL 3 za x.Tables.Check,oL 3 za x.Tables.Accept,oL 3 za x.Tables.Start]
structure zC where
 Rule:Int
 Start:Int
 End:Int
 Cond:Int
 deriving Inhabited,DecidableEq
abbrev zap (x:zC):FV:=.agg [.pv (.int .i64 x.Rule),.pv (.int .i64 x.Start),.pv (.int .i64 x.End),.pv (.int .i64 x.Cond)]
def zp (x:zC):FV:=zap x
theorem z7 (x:zC):zp x=zap x:=rfl
abbrev zc0 (x:zC):AV:=.agg [vI .i64 x.Rule,vI .i64 x.Start,vI .i64 x.End,vI .i64 x.Cond]
abbrev ao_api_Token (x:zC):AV:=.agg [vI .i64 x.Rule,vI .i64 x.Start,vI .i64 x.End,vI .i64 x.Cond]
def zjE (l:(List zC)):FV:=.sl (List.map zp l)
structure zi where
 Tokens:(List zC)
 Jam:Int
 deriving Inhabited,DecidableEq
abbrev zdd (x:zi):FV:=.agg [.sl (List.map zp x.Tokens),.pv (.int .i64 x.Jam)]
def zfH (x:zi):FV:=zdd x
theorem zhm (x:zi):zfH x=zdd x:=rfl
abbrev zaU (x:zi):AV:=.agg [vL zp x.Tokens,vI .i64 x.Jam]
abbrev ao_api_Result (x:zi):AV:=.agg [oL 49 zp x.Tokens,vI .i64 x.Jam]
def encs_api_Rx (l:(List zf)):FV:=.sl (List.map zc l)
def zhX (l:(List zd)):FV:=.sl (List.map zcq l)
structure zdg where
 Steps:Int
 Memo:Int
 deriving Inhabited,DecidableEq
abbrev zel (x:zdg):FV:=.agg [.pv (.int .i64 x.Steps),.pv (.int .i64 x.Memo)]
def zhP (x:zdg):FV:=zel x
theorem zjj (x:zdg):zhP x=zel x:=rfl
abbrev av_api_Cost (x:zdg):AV:=.agg [vI .i64 x.Steps,vI .i64 x.Memo]
abbrev ao_api_Cost (x:zdg):AV:=.agg [vI .i64 x.Steps,vI .i64 x.Memo]
def enc_u16 (n:Int):FV:=.pv (.int .u16 n)
def encs__i64 (l:(List (List Int))):FV:=.sl (List.map zj l)
structure zZ where
 Map:(List Int)
 Rows:(List (List Int))
 Accept:(List Int)
 Start:(List Int)
 deriving Inhabited,DecidableEq
abbrev zfi (x:zZ):FV:=.agg [.sl (List.map za x.Map),.sl (List.map zj x.Rows),.sl (List.map za x.Accept),.sl (List.map za x.Start)]
def zji (x:zZ):FV:=zfi x
theorem zjF (x:zZ):zji x=zfi x:=rfl
abbrev zar (x:zZ):AV:=.agg [vL za x.Map,vL zj x.Rows,vL za x.Accept,vL za x.Start]
abbrev zhs (x:zZ):AV:=.agg [oL 3 za x.Map,oL 27 zj x.Rows,oL 3 za x.Accept,oL 3 za x.Start]
structure ze where
 L:(List Int)
 At:Int
 deriving Inhabited,DecidableEq
abbrev zbk (x:ze):FV:=.agg [.sl (List.map zF x.L),.pv (.int .i64 x.At)]
def zcZ (x:ze):FV:=zbk x
theorem zdY (x:ze):zcZ x=zbk x:=rfl
abbrev zl (x:ze):AV:=.agg [vL zF x.L,vI .i64 x.At]
abbrev zft (x:ze):AV:=.agg [oL 5 zF x.L,vI .i64 x.At]
structure zh where
 Program:zd
 W:ByteArray
 At:Int
 Cond:Int
 Out:zi
 deriving Inhabited
abbrev zco (x:zh):FV:=.agg [.sl (List.map zn x.Program.Spec.Conds),.pv (.bool x.Program.Spec.Default),.sl (List.map zg x.Program.Spec.Rules),.sl (List.map za x.Program.Tables.Map),.pv (.int .i64 x.Program.Tables.Width),.sl (List.map za x.Program.Tables.Base),.sl (List.map za x.Program.Tables.Default),.sl (List.map za x.Program.Tables.Next),.sl (List.map za x.Program.Tables.Check),.sl (List.map za x.Program.Tables.Accept),.sl (List.map za x.Program.Tables.Start),.pv (.string x.W),.pv (.int .i64 x.At),.pv (.int .i64 x.Cond),.sl (List.map zp x.Out.Tokens),.pv (.int .i64 x.Out.Jam)]
def zex (x:zh):FV:=zco x
theorem zfW (x:zh):zex x=zco x:=rfl
abbrev zjt (x:zh):AV:=.agg [vL zn x.Program.Spec.Conds,vB x.Program.Spec.Default,vL zg x.Program.Spec.Rules,vL za x.Program.Tables.Map,vI .i64 x.Program.Tables.Width,vL za x.Program.Tables.Base,vL za x.Program.Tables.Default,vL za x.Program.Tables.Next,vL za x.Program.Tables.Check,vL za x.Program.Tables.Accept,vL za x.Program.Tables.Start,vS x.W,vI .i64 x.At,vI .i64 x.Cond,vL zp x.Out.Tokens,vI .i64 x.Out.Jam]
abbrev zjw (x:zh):AV:=.agg [oL 81 zn x.Program.Spec.Conds,vB x.Program.Spec.Default,oL 57 zg x.Program.Spec.Rules,oL 3 za x.Program.Tables.Map,vI .i64 x.Program.Tables.Width,oL 3 za x.Program.Tables.Base,oL 3 za x.Program.Tables.Default,oL 3 za x.Program.Tables.Next,oL 3 za x.Program.Tables.Check,oL 3 za x.Program.Tables.Accept,oL 3 za x.Program.Tables.Start,vS x.W,vI .i64 x.At,vI .i64 x.Cond,oL 49 zp x.Out.Tokens,vI .i64 x.Out.Jam]
def zhW (l:(List zb)):FV:=.sl (List.map zm l)
def encs_bool (l:(List Bool)):FV:=.sl (List.map zY l)
structure zbT where
 Sets:(List zb)
 Owner:(List Int)
 Follow:(List (List Int))
 Ends:(List Bool)
 Starts:(List (List Int))
 deriving Inhabited,DecidableEq
abbrev zem (x:zbT):FV:=.agg [.sl (List.map zm x.Sets),.sl (List.map za x.Owner),.sl (List.map zj x.Follow),.sl (List.map zY x.Ends),.sl (List.map zj x.Starts)]
def zhQ (x:zbT):FV:=zem x
theorem zjk (x:zbT):zhQ x=zem x:=rfl
abbrev zcJ (x:zbT):AV:=.agg [vL zm x.Sets,vL za x.Owner,vL zj x.Follow,vL zY x.Ends,vL zj x.Starts]
abbrev ao_api_Auto (x:zbT):AV:=.agg [oL 52 zm x.Sets,oL 3 za x.Owner,oL 27 zj x.Follow,oL 4 zY x.Ends,oL 27 zj x.Starts]
structure zai where
 State:Int
 At:Int
 deriving Inhabited,DecidableEq
abbrev zbw (x:zai):FV:=.agg [.pv (.int .i64 x.State),.pv (.int .i64 x.At)]
def zbl (x:zai):FV:=zbw x
theorem zeq (x:zai):zbl x=zbw x:=rfl
abbrev zfY (x:zai):AV:=.agg [vI .i64 x.State,vI .i64 x.At]
abbrev zfZ (x:zai):AV:=.agg [vI .i64 x.State,vI .i64 x.At]
def zeZ (l:(List zai)):FV:=.sl (List.map zbl l)
structure zbE where
 state:Int
 at_:Int
 deriving Inhabited,DecidableEq
abbrev zdI (x:zbE):FV:=.agg [.pv (.int .i64 x.state),.pv (.int .i64 x.at_)]
def zep (x:zbE):FV:=zdI x
theorem zh1 (x:zbE):zep x=zdI x:=rfl
abbrev av_reps_pair (x:zbE):AV:=.agg [vI .i64 x.state,vI .i64 x.at_]
abbrev ao_reps_pair (x:zbE):AV:=.agg [vI .i64 x.state,vI .i64 x.at_]
structure struct127 where
 deriving Inhabited,DecidableEq
abbrev zdG (x:struct127):FV:=.agg []
def zgJ (x:struct127):FV:=zdG x
theorem zhZ (x:struct127):zgJ x=zdG x:=rfl
abbrev av_struct127 (x:struct127):AV:=.agg []
abbrev ao_struct127 (x:struct127):AV:=.agg []
structure zac where
 Next:(List Int)
 Accept:Int
 deriving Inhabited,DecidableEq
abbrev zbj (x:zac):FV:=.agg [.sl (List.map za x.Next),.pv (.int .i64 x.Accept)]
def za8 (x:zac):FV:=zbj x
theorem zdX (x:zac):za8 x=zbj x:=rfl
abbrev zfq (x:zac):AV:=.agg [vL za x.Next,vI .i64 x.Accept]
abbrev zfs (x:zac):AV:=.agg [oL 3 za x.Next,vI .i64 x.Accept]
def zey (l:(List zac)):FV:=.sl (List.map za8 l)
structure zx where
 G:(List Int)
 L:(List Int)
 State:(List Int)
 deriving Inhabited,DecidableEq
abbrev zbi (x:zx):FV:=.agg [.sl (List.map za x.G),.sl (List.map za x.L),.sl (List.map za x.State)]
def zcY (x:zx):FV:=zbi x
theorem zdW (x:zx):zcY x=zbi x:=rfl
abbrev zfp (x:zx):AV:=.agg [vL za x.G,vL za x.L,vL za x.State]
abbrev zfr (x:zx):AV:=.agg [oL 3 za x.G,oL 3 za x.L,oL 3 za x.State]
structure zao where
 Sets:(List zb)
 First:(List Int)
 Last:(List Int)
 Follow:(List (List Int))
 Null:Bool
 deriving Inhabited,DecidableEq
abbrev zde (x:zao):FV:=.agg [.sl (List.map zm x.Sets),.sl (List.map za x.First),.sl (List.map za x.Last),.sl (List.map zj x.Follow),.pv (.bool x.Null)]
def zfI (x:zao):FV:=zde x
theorem zhn (x:zao):zfI x=zde x:=rfl
abbrev zbx (x:zao):AV:=.agg [vL zm x.Sets,vL za x.First,vL za x.Last,vL zj x.Follow,vB x.Null]
abbrev ao_api_Places (x:zao):AV:=.agg [oL 52 zm x.Sets,oL 3 za x.First,oL 3 za x.Last,oL 27 zj x.Follow,vB x.Null]
structure zaR where
 Conds:(List Int)
 All:Bool
 Bol:Bool
 Rx:zf
 Trail:zf
 Eof:Bool
 Act:Int
 To:Int
 deriving Inhabited
abbrev zdH (x:zaR):FV:=.agg [.sl (List.map za x.Conds),.pv (.bool x.All),.pv (.bool x.Bol),.pv (.int .i64 x.Rx.Kind),.pv (.int .u64 x.Rx.Set.e0),.pv (.int .u64 x.Rx.Set.e1),.pv (.int .u64 x.Rx.Set.e2),.pv (.int .u64 x.Rx.Set.e3),.pv (.int .i64 x.Rx.Lo),.pv (.int .i64 x.Rx.Hi),.sl (List.map zc x.Rx.Kids),.pv (.int .i64 x.Trail.Kind),.pv (.int .u64 x.Trail.Set.e0),.pv (.int .u64 x.Trail.Set.e1),.pv (.int .u64 x.Trail.Set.e2),.pv (.int .u64 x.Trail.Set.e3),.pv (.int .i64 x.Trail.Lo),.pv (.int .i64 x.Trail.Hi),.sl (List.map zc x.Trail.Kids),.pv (.bool x.Eof),.pv (.int .i64 x.Act),.pv (.int .i64 x.To)]
def zgK (x:zaR):FV:=zdH x
theorem zh0 (x:zaR):zgK x=zdH x:=rfl
abbrev zaW (x:zaR):AV:=.agg [vL za x.Conds,vB x.All,vB x.Bol,vI .i64 x.Rx.Kind,vI .u64 x.Rx.Set.e0,vI .u64 x.Rx.Set.e1,vI .u64 x.Rx.Set.e2,vI .u64 x.Rx.Set.e3,vI .i64 x.Rx.Lo,vI .i64 x.Rx.Hi,vL zc x.Rx.Kids,vI .i64 x.Trail.Kind,vI .u64 x.Trail.Set.e0,vI .u64 x.Trail.Set.e1,vI .u64 x.Trail.Set.e2,vI .u64 x.Trail.Set.e3,vI .i64 x.Trail.Lo,vI .i64 x.Trail.Hi,vL zc x.Trail.Kids,vB x.Eof,vI .i64 x.Act,vI .i64 x.To]
abbrev ao_spec_rule (x:zaR):AV:=.agg [oL 3 za x.Conds,vB x.All,vB x.Bol,vI .i64 x.Rx.Kind,vI .u64 x.Rx.Set.e0,vI .u64 x.Rx.Set.e1,vI .u64 x.Rx.Set.e2,vI .u64 x.Rx.Set.e3,vI .i64 x.Rx.Lo,vI .i64 x.Rx.Hi,oL 55 zc x.Rx.Kids,vI .i64 x.Trail.Kind,vI .u64 x.Trail.Set.e0,vI .u64 x.Trail.Set.e1,vI .u64 x.Trail.Set.e2,vI .u64 x.Trail.Set.e3,vI .i64 x.Trail.Lo,vI .i64 x.Trail.Hi,oL 55 zc x.Trail.Kids,vB x.Eof,vI .i64 x.Act,vI .i64 x.To]
structure zO where
 Kind:Int
 Set:zb
 Lo:Int
 Hi:Int
 Kids:(List zf)
 deriving Inhabited
abbrev zdc (x:zO):FV:=.agg [.pv (.int .i64 x.Kind),.pv (.int .u64 x.Set.e0),.pv (.int .u64 x.Set.e1),.pv (.int .u64 x.Set.e2),.pv (.int .u64 x.Set.e3),.pv (.int .i64 x.Lo),.pv (.int .i64 x.Hi),.sl (List.map zc x.Kids)]
def zfG (x:zO):FV:=zdc x
theorem zhl (x:zO):zfG x=zdc x:=rfl
abbrev zS (x:zO):AV:=.agg [vI .i64 x.Kind,vI .u64 x.Set.e0,vI .u64 x.Set.e1,vI .u64 x.Set.e2,vI .u64 x.Set.e3,vI .i64 x.Lo,vI .i64 x.Hi,vL zc x.Kids]
abbrev ao_rx_pattern (x:zO):AV:=.agg [vI .i64 x.Kind,vI .u64 x.Set.e0,vI .u64 x.Set.e1,vI .u64 x.Set.e2,vI .u64 x.Set.e3,vI .i64 x.Lo,vI .i64 x.Hi,oL 55 zc x.Kids]
structure zy where
 sets:(List zb)
 follow:(List (List Int))
 deriving Inhabited,DecidableEq
abbrev zb1 (x:zy):FV:=.agg [.sl (List.map zm x.sets),.sl (List.map zj x.follow)]
def zdV (x:zy):FV:=zb1 x
theorem zfo (x:zy):zdV x=zb1 x:=rfl
abbrev zh2 (x:zy):AV:=.agg [vL zm x.sets,vL zj x.follow]
abbrev zA (x:zy):AV:=.agg [oL 52 zm x.sets,oL 27 zj x.follow]
structure zu where
 first:(List Int)
 last:(List Int)
 null:Bool
 deriving Inhabited,DecidableEq
abbrev zb0 (x:zu):FV:=.agg [.sl (List.map za x.first),.sl (List.map za x.last),.pv (.bool x.null)]
def zt (x:zu):FV:=zb0 x
theorem zae (x:zu):zt x=zb0 x:=rfl
abbrev zK (x:zu):AV:=.agg [vL za x.first,vL za x.last,vB x.null]
abbrev zjG (x:zu):AV:=.agg [oL 3 za x.first,oL 3 za x.last,vB x.null]
def zhV (l:(List zu)):FV:=.sl (List.map zt l)
def enc_u32 (n:Int):FV:=.pv (.int .u32 n)
def zdK (x:zbE):FV:=.agg [zep x,.agg []]
def zfV (l:(List zbE)):FV:=.sl (List.map zdK l)
def zT (x:ByteArray):FV:=.agg [.pv (.string x),.agg []]
theorem zgs (k:ByteArray) (l:List ByteArray):putE (.string k) (.agg []) (List.map zT l)=List.map zT (sput k l):=putE_set (fun k=>.string k) zT (fun _=>rfl) (fun a b=>by first | exact keyEq_str a b | exact keyEq_int _ _ a b) k l
theorem zfR (l:List ByteArray):(List.map zT l).all (keyIs .string)=true:=by simp [keyIs,keyV,zT]
def zhY (l:(List ByteArray)):FV:=.sl (List.map zT l)
theorem strElems_ints (s:ByteArray):strElems s=List.map zF (strInts s):=strElems_of s _ fun _=>rfl
theorem enq:(∀ n:Int,za n=.pv (.int .i64 n))∧
 (∀ n:Bool,zY n=.pv (.bool n))∧
 (∀ n:Int,zF n=.pv (.int .u8 n))∧
 (∀ n:ByteArray,enc_string n=.pv (.string n))∧
 (∀ n:Int,enc_u64 n=.pv (.int .u64 n))∧
 (∀ n:Int,enc_i32 n=.pv (.int .i32 n))∧
 (∀ l:(List Int),encs_u8 l=.sl (List.map zF l))∧
 (∀ x:zaJ,zn x=zdv x)∧
 (∀ x:zaJ,zdv x=.agg [.pv (.string x.Name),.pv (.bool x.Exclusive)])∧
 (∀ x:zaJ,zju x=.agg [vS x.Name,vB x.Exclusive])∧
 (∀ x:zaJ,ao_api_Cond x=.agg [vS x.Name,vB x.Exclusive])∧
 (∀ l:(List zaJ),encs_api_Cond l=.sl (List.map zn l))∧
 (∀ l:(List Int),zj l=.sl (List.map za l))∧
 (∀ x:zb,zm x=zcQ x)∧
 (∀ x:zb,zcQ x=.agg [.pv (.int .u64 x.e0),.pv (.int .u64 x.e1),.pv (.int .u64 x.e2),.pv (.int .u64 x.e3)])∧
 (∀ x:zb,zQ x=.agg [vI .u64 x.e0,vI .u64 x.e1,vI .u64 x.e2,vI .u64 x.e3])∧
 (∀ x:zb,zjH x=.agg [vI .u64 x.e0,vI .u64 x.e1,vI .u64 x.e2,vI .u64 x.e3])∧
 (∀ x:zf,zc x=zbF x)∧
 (∀ x:zf,zbF x=.agg [.pv (.int .i64 x.Kind),.pv (.int .u64 x.Set.e0),.pv (.int .u64 x.Set.e1),.pv (.int .u64 x.Set.e2),.pv (.int .u64 x.Set.e3),.pv (.int .i64 x.Lo),.pv (.int .i64 x.Hi),.sl (List.map zc x.Kids)])∧
 (∀ x:zf,zD x=.agg [vI .i64 x.Kind,vI .u64 x.Set.e0,vI .u64 x.Set.e1,vI .u64 x.Set.e2,vI .u64 x.Set.e3,vI .i64 x.Lo,vI .i64 x.Hi,vL zc x.Kids])∧
 (∀ x:zf,zbp x=.agg [vI .i64 x.Kind,vI .u64 x.Set.e0,vI .u64 x.Set.e1,vI .u64 x.Set.e2,vI .u64 x.Set.e3,vI .i64 x.Lo,vI .i64 x.Hi,oL 55 zc x.Kids])∧
 (∀ x:zw,zg x=zdu x)∧
 (∀ x:zw,zdu x=.agg [.sl (List.map za x.Conds),.pv (.bool x.All),.pv (.bool x.Bol),.pv (.int .i64 x.Rx.Kind),.pv (.int .u64 x.Rx.Set.e0),.pv (.int .u64 x.Rx.Set.e1),.pv (.int .u64 x.Rx.Set.e2),.pv (.int .u64 x.Rx.Set.e3),.pv (.int .i64 x.Rx.Lo),.pv (.int .i64 x.Rx.Hi),.sl (List.map zc x.Rx.Kids),.pv (.int .i64 x.Trail.Kind),.pv (.int .u64 x.Trail.Set.e0),.pv (.int .u64 x.Trail.Set.e1),.pv (.int .u64 x.Trail.Set.e2),.pv (.int .u64 x.Trail.Set.e3),.pv (.int .i64 x.Trail.Lo),.pv (.int .i64 x.Trail.Hi),.sl (List.map zc x.Trail.Kids),.pv (.bool x.Eof),.pv (.int .i64 x.Act),.pv (.int .i64 x.To)])∧
 (∀ x:zw,zbg x=.agg [vL za x.Conds,vB x.All,vB x.Bol,vI .i64 x.Rx.Kind,vI .u64 x.Rx.Set.e0,vI .u64 x.Rx.Set.e1,vI .u64 x.Rx.Set.e2,vI .u64 x.Rx.Set.e3,vI .i64 x.Rx.Lo,vI .i64 x.Rx.Hi,vL zc x.Rx.Kids,vI .i64 x.Trail.Kind,vI .u64 x.Trail.Set.e0,vI .u64 x.Trail.Set.e1,vI .u64 x.Trail.Set.e2,vI .u64 x.Trail.Set.e3,vI .i64 x.Trail.Lo,vI .i64 x.Trail.Hi,vL zc x.Trail.Kids,vB x.Eof,vI .i64 x.Act,vI .i64 x.To])∧
 (∀ x:zw,ao_api_Rule x=.agg [oL 3 za x.Conds,vB x.All,vB x.Bol,vI .i64 x.Rx.Kind,vI .u64 x.Rx.Set.e0,vI .u64 x.Rx.Set.e1,vI .u64 x.Rx.Set.e2,vI .u64 x.Rx.Set.e3,vI .i64 x.Rx.Lo,vI .i64 x.Rx.Hi,oL 55 zc x.Rx.Kids,vI .i64 x.Trail.Kind,vI .u64 x.Trail.Set.e0,vI .u64 x.Trail.Set.e1,vI .u64 x.Trail.Set.e2,vI .u64 x.Trail.Set.e3,vI .i64 x.Trail.Lo,vI .i64 x.Trail.Hi,oL 55 zc x.Trail.Kids,vB x.Eof,vI .i64 x.Act,vI .i64 x.To])∧
 (∀ l:(List zw),encs_api_Rule l=.sl (List.map zg l))∧
 (∀ x:zr,zhO x=zek x)∧
 (∀ x:zr,zek x=.agg [.sl (List.map zn x.Conds),.pv (.bool x.Default),.sl (List.map zg x.Rules)])∧
 (∀ x:zr,zag x=.agg [vL zn x.Conds,vB x.Default,vL zg x.Rules])∧
 (∀ x:zr,ao_api_Spec x=.agg [oL 81 zn x.Conds,vB x.Default,oL 57 zg x.Rules])∧
 (∀ x:zk,zfJ x=zdf x)∧
 (∀ x:zk,zdf x=.agg [.sl (List.map za x.Map),.pv (.int .i64 x.Width),.sl (List.map za x.Base),.sl (List.map za x.Default),.sl (List.map za x.Next),.sl (List.map za x.Check),.sl (List.map za x.Accept),.sl (List.map za x.Start)])∧
 (∀ x:zk,zaI x=.agg [vL za x.Map,vI .i64 x.Width,vL za x.Base,vL za x.Default,vL za x.Next,vL za x.Check,vL za x.Accept,vL za x.Start])∧
 (∀ x:zk,ao_api_Packed x=.agg [oL 3 za x.Map,vI .i64 x.Width,oL 3 za x.Base,oL 3 za x.Default,oL 3 za x.Next,oL 3 za x.Check,oL 3 za x.Accept,oL 3 za x.Start])∧
 (∀ x:zd,zcq x=zcR x)∧
 (∀ x:zd,zcR x=.agg [.sl (List.map zn x.Spec.Conds),.pv (.bool x.Spec.Default),.sl (List.map zg x.Spec.Rules),.sl (List.map za x.Tables.Map),.pv (.int .i64 x.Tables.Width),.sl (List.map za x.Tables.Base),.sl (List.map za x.Tables.Default),.sl (List.map za x.Tables.Next),.sl (List.map za x.Tables.Check),.sl (List.map za x.Tables.Accept),.sl (List.map za x.Tables.Start)])∧
 (∀ x:zd,zE x=.agg [vL zn x.Spec.Conds,vB x.Spec.Default,vL zg x.Spec.Rules,vL za x.Tables.Map,vI .i64 x.Tables.Width,vL za x.Tables.Base,vL za x.Tables.Default,vL za x.Tables.Next,vL za x.Tables.Check,vL za x.Tables.Accept,vL za x.Tables.Start])∧
 (∀ x:zd,zjI x=.agg [oL 81 zn x.Spec.Conds,vB x.Spec.Default,oL 57 zg x.Spec.Rules,oL 3 za x.Tables.Map,vI .i64 x.Tables.Width,oL 3 za x.Tables.Base,oL 3 za x.Tables.Default,oL 3 za x.Tables.Next,oL 3 za x.Tables.Check,oL 3 za x.Tables.Accept,oL 3 za x.Tables.Start])∧
 (∀ x:zC,zp x=zap x)∧
 (∀ x:zC,zap x=.agg [.pv (.int .i64 x.Rule),.pv (.int .i64 x.Start),.pv (.int .i64 x.End),.pv (.int .i64 x.Cond)])∧
 (∀ x:zC,zc0 x=.agg [vI .i64 x.Rule,vI .i64 x.Start,vI .i64 x.End,vI .i64 x.Cond])∧
 (∀ x:zC,ao_api_Token x=.agg [vI .i64 x.Rule,vI .i64 x.Start,vI .i64 x.End,vI .i64 x.Cond])∧
 (∀ l:(List zC),zjE l=.sl (List.map zp l))∧
 (∀ x:zi,zfH x=zdd x)∧
 (∀ x:zi,zdd x=.agg [.sl (List.map zp x.Tokens),.pv (.int .i64 x.Jam)])∧
 (∀ x:zi,zaU x=.agg [vL zp x.Tokens,vI .i64 x.Jam])∧
 (∀ x:zi,ao_api_Result x=.agg [oL 49 zp x.Tokens,vI .i64 x.Jam])∧
 (∀ l:(List zf),encs_api_Rx l=.sl (List.map zc l))∧
 (∀ l:(List zd),zhX l=.sl (List.map zcq l))∧
 (∀ x:zdg,zhP x=zel x)∧
 (∀ x:zdg,zel x=.agg [.pv (.int .i64 x.Steps),.pv (.int .i64 x.Memo)])∧
 (∀ x:zdg,av_api_Cost x=.agg [vI .i64 x.Steps,vI .i64 x.Memo])∧
 (∀ x:zdg,ao_api_Cost x=.agg [vI .i64 x.Steps,vI .i64 x.Memo])∧
 (∀ n:Int,enc_u16 n=.pv (.int .u16 n))∧
 (∀ l:(List (List Int)),encs__i64 l=.sl (List.map zj l))∧
 (∀ x:zZ,zji x=zfi x)∧
 (∀ x:zZ,zfi x=.agg [.sl (List.map za x.Map),.sl (List.map zj x.Rows),.sl (List.map za x.Accept),.sl (List.map za x.Start)])∧
 (∀ x:zZ,zar x=.agg [vL za x.Map,vL zj x.Rows,vL za x.Accept,vL za x.Start])∧
 (∀ x:zZ,zhs x=.agg [oL 3 za x.Map,oL 27 zj x.Rows,oL 3 za x.Accept,oL 3 za x.Start])∧
 (∀ x:ze,zcZ x=zbk x)∧
 (∀ x:ze,zbk x=.agg [.sl (List.map zF x.L),.pv (.int .i64 x.At)])∧
 (∀ x:ze,zl x=.agg [vL zF x.L,vI .i64 x.At])∧
 (∀ x:ze,zft x=.agg [oL 5 zF x.L,vI .i64 x.At])∧
 (∀ x:zh,zex x=zco x)∧
 (∀ x:zh,zco x=.agg [.sl (List.map zn x.Program.Spec.Conds),.pv (.bool x.Program.Spec.Default),.sl (List.map zg x.Program.Spec.Rules),.sl (List.map za x.Program.Tables.Map),.pv (.int .i64 x.Program.Tables.Width),.sl (List.map za x.Program.Tables.Base),.sl (List.map za x.Program.Tables.Default),.sl (List.map za x.Program.Tables.Next),.sl (List.map za x.Program.Tables.Check),.sl (List.map za x.Program.Tables.Accept),.sl (List.map za x.Program.Tables.Start),.pv (.string x.W),.pv (.int .i64 x.At),.pv (.int .i64 x.Cond),.sl (List.map zp x.Out.Tokens),.pv (.int .i64 x.Out.Jam)])∧
 (∀ x:zh,zjt x=.agg [vL zn x.Program.Spec.Conds,vB x.Program.Spec.Default,vL zg x.Program.Spec.Rules,vL za x.Program.Tables.Map,vI .i64 x.Program.Tables.Width,vL za x.Program.Tables.Base,vL za x.Program.Tables.Default,vL za x.Program.Tables.Next,vL za x.Program.Tables.Check,vL za x.Program.Tables.Accept,vL za x.Program.Tables.Start,vS x.W,vI .i64 x.At,vI .i64 x.Cond,vL zp x.Out.Tokens,vI .i64 x.Out.Jam])∧
 (∀ x:zh,zjw x=.agg [oL 81 zn x.Program.Spec.Conds,vB x.Program.Spec.Default,oL 57 zg x.Program.Spec.Rules,oL 3 za x.Program.Tables.Map,vI .i64 x.Program.Tables.Width,oL 3 za x.Program.Tables.Base,oL 3 za x.Program.Tables.Default,oL 3 za x.Program.Tables.Next,oL 3 za x.Program.Tables.Check,oL 3 za x.Program.Tables.Accept,oL 3 za x.Program.Tables.Start,vS x.W,vI .i64 x.At,vI .i64 x.Cond,oL 49 zp x.Out.Tokens,vI .i64 x.Out.Jam])∧
 (∀ l:(List zb),zhW l=.sl (List.map zm l))∧
 (∀ l:(List Bool),encs_bool l=.sl (List.map zY l))∧
 (∀ x:zbT,zhQ x=zem x)∧
 (∀ x:zbT,zem x=.agg [.sl (List.map zm x.Sets),.sl (List.map za x.Owner),.sl (List.map zj x.Follow),.sl (List.map zY x.Ends),.sl (List.map zj x.Starts)])∧
 (∀ x:zbT,zcJ x=.agg [vL zm x.Sets,vL za x.Owner,vL zj x.Follow,vL zY x.Ends,vL zj x.Starts])∧
 (∀ x:zbT,ao_api_Auto x=.agg [oL 52 zm x.Sets,oL 3 za x.Owner,oL 27 zj x.Follow,oL 4 zY x.Ends,oL 27 zj x.Starts])∧
 (∀ x:zai,zbl x=zbw x)∧
 (∀ x:zai,zbw x=.agg [.pv (.int .i64 x.State),.pv (.int .i64 x.At)])∧
 (∀ x:zai,zfY x=.agg [vI .i64 x.State,vI .i64 x.At])∧
 (∀ x:zai,zfZ x=.agg [vI .i64 x.State,vI .i64 x.At])∧
 (∀ l:(List zai),zeZ l=.sl (List.map zbl l))∧
 (∀ x:zbE,zep x=zdI x)∧
 (∀ x:zbE,zdI x=.agg [.pv (.int .i64 x.state),.pv (.int .i64 x.at_)])∧
 (∀ x:zbE,av_reps_pair x=.agg [vI .i64 x.state,vI .i64 x.at_])∧
 (∀ x:zbE,ao_reps_pair x=.agg [vI .i64 x.state,vI .i64 x.at_])∧
 (∀ x:struct127,zgJ x=zdG x)∧
 (∀ x:struct127,zdG x=.agg [])∧
 (∀ x:struct127,av_struct127 x=.agg [])∧
 (∀ x:struct127,ao_struct127 x=.agg [])∧
 (∀ x:zac,za8 x=zbj x)∧
 (∀ x:zac,zbj x=.agg [.sl (List.map za x.Next),.pv (.int .i64 x.Accept)])∧
 (∀ x:zac,zfq x=.agg [vL za x.Next,vI .i64 x.Accept])∧
 (∀ x:zac,zfs x=.agg [oL 3 za x.Next,vI .i64 x.Accept])∧
 (∀ l:(List zac),zey l=.sl (List.map za8 l))∧
 (∀ x:zx,zcY x=zbi x)∧
 (∀ x:zx,zbi x=.agg [.sl (List.map za x.G),.sl (List.map za x.L),.sl (List.map za x.State)])∧
 (∀ x:zx,zfp x=.agg [vL za x.G,vL za x.L,vL za x.State])∧
 (∀ x:zx,zfr x=.agg [oL 3 za x.G,oL 3 za x.L,oL 3 za x.State])∧
 (∀ x:zao,zfI x=zde x)∧
 (∀ x:zao,zde x=.agg [.sl (List.map zm x.Sets),.sl (List.map za x.First),.sl (List.map za x.Last),.sl (List.map zj x.Follow),.pv (.bool x.Null)])∧
 (∀ x:zao,zbx x=.agg [vL zm x.Sets,vL za x.First,vL za x.Last,vL zj x.Follow,vB x.Null])∧
 (∀ x:zao,ao_api_Places x=.agg [oL 52 zm x.Sets,oL 3 za x.First,oL 3 za x.Last,oL 27 zj x.Follow,vB x.Null])∧
 (∀ x:zaR,zgK x=zdH x)∧
 (∀ x:zaR,zdH x=.agg [.sl (List.map za x.Conds),.pv (.bool x.All),.pv (.bool x.Bol),.pv (.int .i64 x.Rx.Kind),.pv (.int .u64 x.Rx.Set.e0),.pv (.int .u64 x.Rx.Set.e1),.pv (.int .u64 x.Rx.Set.e2),.pv (.int .u64 x.Rx.Set.e3),.pv (.int .i64 x.Rx.Lo),.pv (.int .i64 x.Rx.Hi),.sl (List.map zc x.Rx.Kids),.pv (.int .i64 x.Trail.Kind),.pv (.int .u64 x.Trail.Set.e0),.pv (.int .u64 x.Trail.Set.e1),.pv (.int .u64 x.Trail.Set.e2),.pv (.int .u64 x.Trail.Set.e3),.pv (.int .i64 x.Trail.Lo),.pv (.int .i64 x.Trail.Hi),.sl (List.map zc x.Trail.Kids),.pv (.bool x.Eof),.pv (.int .i64 x.Act),.pv (.int .i64 x.To)])∧
 (∀ x:zaR,zaW x=.agg [vL za x.Conds,vB x.All,vB x.Bol,vI .i64 x.Rx.Kind,vI .u64 x.Rx.Set.e0,vI .u64 x.Rx.Set.e1,vI .u64 x.Rx.Set.e2,vI .u64 x.Rx.Set.e3,vI .i64 x.Rx.Lo,vI .i64 x.Rx.Hi,vL zc x.Rx.Kids,vI .i64 x.Trail.Kind,vI .u64 x.Trail.Set.e0,vI .u64 x.Trail.Set.e1,vI .u64 x.Trail.Set.e2,vI .u64 x.Trail.Set.e3,vI .i64 x.Trail.Lo,vI .i64 x.Trail.Hi,vL zc x.Trail.Kids,vB x.Eof,vI .i64 x.Act,vI .i64 x.To])∧
 (∀ x:zaR,ao_spec_rule x=.agg [oL 3 za x.Conds,vB x.All,vB x.Bol,vI .i64 x.Rx.Kind,vI .u64 x.Rx.Set.e0,vI .u64 x.Rx.Set.e1,vI .u64 x.Rx.Set.e2,vI .u64 x.Rx.Set.e3,vI .i64 x.Rx.Lo,vI .i64 x.Rx.Hi,oL 55 zc x.Rx.Kids,vI .i64 x.Trail.Kind,vI .u64 x.Trail.Set.e0,vI .u64 x.Trail.Set.e1,vI .u64 x.Trail.Set.e2,vI .u64 x.Trail.Set.e3,vI .i64 x.Trail.Lo,vI .i64 x.Trail.Hi,oL 55 zc x.Trail.Kids,vB x.Eof,vI .i64 x.Act,vI .i64 x.To])∧
 (∀ x:zO,zfG x=zdc x)∧
 (∀ x:zO,zdc x=.agg [.pv (.int .i64 x.Kind),.pv (.int .u64 x.Set.e0),.pv (.int .u64 x.Set.e1),.pv (.int .u64 x.Set.e2),.pv (.int .u64 x.Set.e3),.pv (.int .i64 x.Lo),.pv (.int .i64 x.Hi),.sl (List.map zc x.Kids)])∧
 (∀ x:zO,zS x=.agg [vI .i64 x.Kind,vI .u64 x.Set.e0,vI .u64 x.Set.e1,vI .u64 x.Set.e2,vI .u64 x.Set.e3,vI .i64 x.Lo,vI .i64 x.Hi,vL zc x.Kids])∧
 (∀ x:zO,ao_rx_pattern x=.agg [vI .i64 x.Kind,vI .u64 x.Set.e0,vI .u64 x.Set.e1,vI .u64 x.Set.e2,vI .u64 x.Set.e3,vI .i64 x.Lo,vI .i64 x.Hi,oL 55 zc x.Kids])∧
 (∀ x:zy,zdV x=zb1 x)∧
 (∀ x:zy,zb1 x=.agg [.sl (List.map zm x.sets),.sl (List.map zj x.follow)])∧
 (∀ x:zy,zh2 x=.agg [vL zm x.sets,vL zj x.follow])∧
 (∀ x:zy,zA x=.agg [oL 52 zm x.sets,oL 27 zj x.follow])∧
 (∀ x:zu,zt x=zb0 x)∧
 (∀ x:zu,zb0 x=.agg [.sl (List.map za x.first),.sl (List.map za x.last),.pv (.bool x.null)])∧
 (∀ x:zu,zK x=.agg [vL za x.first,vL za x.last,vB x.null])∧
 (∀ x:zu,zjG x=.agg [oL 3 za x.first,oL 3 za x.last,vB x.null])∧
 (∀ l:(List zu),zhV l=.sl (List.map zt l))∧
 (∀ n:Int,enc_u32 n=.pv (.int .u32 n))∧
 (∀ l:(List zbE),zfV l=.sl (List.map zdK l))∧
 (∀ x:ByteArray,zT x=.agg [.pv (.string x),.agg []])∧
 (∀ (k:ByteArray) (l:List ByteArray),putE (.string k) (.agg []) (List.map zT l)=List.map zT (sput k l))∧
 (∀ l:(List ByteArray),zhY l=.sl (List.map zT l))∧
 (∀ s:ByteArray,strElems s=List.map zF (strInts s)):=
 ⟨fun _=>rfl,fun _=>rfl,fun _=>rfl,fun _=>rfl,fun _=>rfl,fun _=>rfl,fun _=>rfl,zbO,fun _=>rfl,fun _=>rfl,fun _=>rfl,fun _=>rfl,fun _=>rfl,zbH,fun _=>rfl,fun _=>rfl,fun _=>rfl,zL,fun _=>rfl,fun _=>rfl,fun _=>rfl,zaA,fun _=>rfl,fun _=>rfl,fun _=>rfl,fun _=>rfl,zjh,fun _=>rfl,fun _=>rfl,fun _=>rfl,zho,fun _=>rfl,fun _=>rfl,fun _=>rfl,zgL,fun _=>rfl,fun _=>rfl,fun _=>rfl,z7,fun _=>rfl,fun _=>rfl,fun _=>rfl,fun _=>rfl,zhm,fun _=>rfl,fun _=>rfl,fun _=>rfl,fun _=>rfl,fun _=>rfl,zjj,fun _=>rfl,fun _=>rfl,fun _=>rfl,fun _=>rfl,fun _=>rfl,zjF,fun _=>rfl,fun _=>rfl,fun _=>rfl,zdY,fun _=>rfl,fun _=>rfl,fun _=>rfl,zfW,fun _=>rfl,fun _=>rfl,fun _=>rfl,fun _=>rfl,fun _=>rfl,zjk,fun _=>rfl,fun _=>rfl,fun _=>rfl,zeq,fun _=>rfl,fun _=>rfl,fun _=>rfl,fun _=>rfl,zh1,fun _=>rfl,fun _=>rfl,fun _=>rfl,zhZ,fun _=>rfl,fun _=>rfl,fun _=>rfl,zdX,fun _=>rfl,fun _=>rfl,fun _=>rfl,fun _=>rfl,zdW,fun _=>rfl,fun _=>rfl,fun _=>rfl,zhn,fun _=>rfl,fun _=>rfl,fun _=>rfl,zh0,fun _=>rfl,fun _=>rfl,fun _=>rfl,zhl,fun _=>rfl,fun _=>rfl,fun _=>rfl,zfo,fun _=>rfl,fun _=>rfl,fun _=>rfl,zae,fun _=>rfl,fun _=>rfl,fun _=>rfl,fun _=>rfl,fun _=>rfl,fun _=>rfl,fun _=>rfl,zgs,fun _=>rfl,strElems_ints⟩
noncomputable def tyTab:List (Nat×TI):=[(3,⟨Tryz.t3.desc,1,8,some (vI .i64 0)⟩),
 (4,⟨Tryz.t4.desc,1,1,some (vB false)⟩),
 (5,⟨Tryz.t5.desc,1,1,some (vI .u8 0)⟩),
 (9,⟨Tryz.t9.desc,1,16,some (AV.f (FV.pv (Value.string { data:=#[] })))⟩),
 (22,⟨Tryz.t22.desc,1,24,some (.own 5 [])⟩),
 (23,⟨Tryz.t23.desc,1,24,some (.own 81 [])⟩),
 (24,⟨Tryz.t24.desc,1,24,some (.own 57 [])⟩),
 (25,⟨Tryz.t25.desc,3,56,some (.agg [.own 81 [],vB false,.own 57 []])⟩),
 (26,⟨Tryz.t25.desc,3,56,some (.agg [.own 81 [],vB false,.own 57 []])⟩),
 (27,⟨Tryz.t27.desc,1,24,some (.own 3 [])⟩),
 (28,⟨Tryz.t28.desc,8,176,some (.agg [.own 3 [],vI .i64 0,.own 3 [],.own 3 [],.own 3 [],.own 3 [],.own 3 [],.own 3 []])⟩),
 (29,⟨Tryz.t28.desc,8,176,some (.agg [.own 3 [],vI .i64 0,.own 3 [],.own 3 [],.own 3 [],.own 3 [],.own 3 [],.own 3 []])⟩),
 (30,⟨Tryz.t30.desc,11,232,some (.agg [.own 81 [],vB false,.own 57 [],.own 3 [],vI .i64 0,.own 3 [],.own 3 [],.own 3 [],.own 3 [],.own 3 [],.own 3 []])⟩),
 (31,⟨Tryz.t30.desc,11,232,some (.agg [.own 81 [],vB false,.own 57 [],.own 3 [],vI .i64 0,.own 3 [],.own 3 [],.own 3 [],.own 3 [],.own 3 [],.own 3 []])⟩),
 (42,⟨Tryz.t42.desc,1,24,some (.own 49 [])⟩),
 (43,⟨Tryz.t43.desc,2,32,some (.agg [.own 49 [],vI .i64 0])⟩),
 (44,⟨Tryz.t43.desc,2,32,some (.agg [.own 49 [],vI .i64 0])⟩),
 (45,⟨Tryz.t3.desc,1,8,some (vI .i64 0)⟩),
 (48,⟨Tryz.t48.desc,4,32,some (.agg [vI .i64 0,vI .i64 0,vI .i64 0,vI .i64 0])⟩),
 (49,⟨Tryz.t48.desc,4,32,some (.agg [vI .i64 0,vI .i64 0,vI .i64 0,vI .i64 0])⟩),
 (50,⟨Tryz.t50.desc,1,8,some (vI .u64 0)⟩),
 (51,⟨Tryz.t51.desc,4,32,some (.agg [vI .u64 0,vI .u64 0,vI .u64 0,vI .u64 0])⟩),
 (52,⟨Tryz.t51.desc,4,32,some (.agg [vI .u64 0,vI .u64 0,vI .u64 0,vI .u64 0])⟩),
 (53,⟨Tryz.t53.desc,1,24,some (.own 55 [])⟩),
 (54,⟨Tryz.t54.desc,8,80,some (.agg [vI .i64 0,vI .u64 0,vI .u64 0,vI .u64 0,vI .u64 0,vI .i64 0,vI .i64 0,.own 55 []])⟩),
 (55,⟨Tryz.t54.desc,8,80,some (.agg [vI .i64 0,vI .u64 0,vI .u64 0,vI .u64 0,vI .u64 0,vI .i64 0,vI .i64 0,.own 55 []])⟩),
 (56,⟨Tryz.t56.desc,22,216,some (.agg [.own 3 [],vB false,vB false,vI .i64 0,vI .u64 0,vI .u64 0,vI .u64 0,vI .u64 0,vI .i64 0,vI .i64 0,.own 55 [],vI .i64 0,vI .u64 0,vI .u64 0,vI .u64 0,vI .u64 0,vI .i64 0,vI .i64 0,.own 55 [],vB false,vI .i64 0,vI .i64 0])⟩),
 (57,⟨Tryz.t56.desc,22,216,some (.agg [.own 3 [],vB false,vB false,vI .i64 0,vI .u64 0,vI .u64 0,vI .u64 0,vI .u64 0,vI .i64 0,vI .i64 0,.own 55 [],vI .i64 0,vI .u64 0,vI .u64 0,vI .u64 0,vI .u64 0,vI .i64 0,vI .i64 0,.own 55 [],vB false,vI .i64 0,vI .i64 0])⟩),
 (70,⟨Tryz.t70.desc,1,24,some (.own 27 [])⟩),
 (71,⟨Tryz.t71.desc,4,96,some (.agg [.own 3 [],.own 27 [],.own 3 [],.own 3 []])⟩),
 (72,⟨Tryz.t71.desc,4,96,some (.agg [.own 3 [],.own 27 [],.own 3 [],.own 3 []])⟩),
 (76,⟨Tryz.t76.desc,1,8,some (AV.f (FV.pv (Value.pointer Option.none)))⟩),
 (77,⟨Tryz.t77.desc,2,32,some (.agg [.own 5 [],vI .i64 0])⟩),
 (78,⟨Tryz.t77.desc,2,32,some (.agg [.own 5 [],vI .i64 0])⟩),
 (80,⟨Tryz.t80.desc,2,24,some (.agg [AV.f (FV.pv (Value.string { data:=#[] })),vB false])⟩),
 (81,⟨Tryz.t80.desc,2,24,some (.agg [AV.f (FV.pv (Value.string { data:=#[] })),vB false])⟩),
 (87,⟨Tryz.t87.desc,1,8,some (AV.f (FV.pv (Value.pointer Option.none)))⟩),
 (92,⟨Tryz.t92.desc,16,296,some (.agg [.own 81 [],vB false,.own 57 [],.own 3 [],vI .i64 0,.own 3 [],.own 3 [],.own 3 [],.own 3 [],.own 3 [],.own 3 [],AV.f (FV.pv (Value.string { data:=#[] })),vI .i64 0,vI .i64 0,.own 49 [],vI .i64 0])⟩),
 (93,⟨Tryz.t92.desc,16,296,some (.agg [.own 81 [],vB false,.own 57 [],.own 3 [],vI .i64 0,.own 3 [],.own 3 [],.own 3 [],.own 3 [],.own 3 [],.own 3 [],AV.f (FV.pv (Value.string { data:=#[] })),vI .i64 0,vI .i64 0,.own 49 [],vI .i64 0])⟩),
 (102,⟨Tryz.t102.desc,1,24,some (.own 52 [])⟩),
 (103,⟨Tryz.t103.desc,1,24,some (.own 4 [])⟩),
 (104,⟨Tryz.t104.desc,5,120,some (.agg [.own 52 [],.own 3 [],.own 27 [],.own 4 [],.own 27 []])⟩),
 (105,⟨Tryz.t104.desc,5,120,some (.agg [.own 52 [],.own 3 [],.own 27 [],.own 4 [],.own 27 []])⟩),
 (127,⟨Tryz.t127.desc,0,0,some (.agg [])⟩),
 (130,⟨Tryz.t130.desc,1,8,some (AV.f (FV.pv (Value.pointer Option.none)))⟩),
 (133,⟨Tryz.t133.desc,1,24,some (.own 140 [])⟩),
 (139,⟨Tryz.t139.desc,2,32,some (.agg [.own 3 [],vI .i64 0])⟩),
 (140,⟨Tryz.t139.desc,2,32,some (.agg [.own 3 [],vI .i64 0])⟩),
 (145,⟨Tryz.t145.desc,1,8,some (AV.f (FV.pv (Value.pointer Option.none)))⟩),
 (146,⟨Tryz.t146.desc,3,72,some (.agg [.own 3 [],.own 3 [],.own 3 []])⟩),
 (147,⟨Tryz.t146.desc,3,72,some (.agg [.own 3 [],.own 3 [],.own 3 []])⟩),
 (151,⟨Tryz.t151.desc,1,8,some (AV.f (FV.pv Value.nilFunc))⟩),
 (152,⟨Tryz.t152.desc,1,8,some (AV.f (FV.pv Value.nilFunc))⟩),
 (159,⟨Tryz.t159.desc,5,104,some (.agg [.own 52 [],.own 3 [],.own 3 [],.own 27 [],vB false])⟩),
 (160,⟨Tryz.t159.desc,5,104,some (.agg [.own 52 [],.own 3 [],.own 3 [],.own 27 [],vB false])⟩),
 (174,⟨Tryz.t174.desc,1,8,some (AV.f (FV.pv (Value.map Option.none)))⟩),
 (175,⟨Tryz.t56.desc,22,216,some (.agg [.own 3 [],vB false,vB false,vI .i64 0,vI .u64 0,vI .u64 0,vI .u64 0,vI .u64 0,vI .i64 0,vI .i64 0,.own 55 [],vI .i64 0,vI .u64 0,vI .u64 0,vI .u64 0,vI .u64 0,vI .i64 0,vI .i64 0,.own 55 [],vB false,vI .i64 0,vI .i64 0])⟩),
 (176,⟨Tryz.t176.desc,1,8,some (AV.f (FV.pv Value.nilFunc))⟩),
 (179,⟨Tryz.t54.desc,8,80,some (.agg [vI .i64 0,vI .u64 0,vI .u64 0,vI .u64 0,vI .u64 0,vI .i64 0,vI .i64 0,.own 55 []])⟩),
 (182,⟨Tryz.t182.desc,1,8,some (AV.f (FV.pv Value.nilFunc))⟩),
 (183,⟨Tryz.t182.desc,1,8,some (AV.f (FV.pv Value.nilFunc))⟩),
 (191,⟨Tryz.t191.desc,1,8,some (AV.f (FV.pv (Value.pointer Option.none)))⟩),
 (192,⟨Tryz.t192.desc,2,48,some (.agg [.own 52 [],.own 27 []])⟩),
 (193,⟨Tryz.t192.desc,2,48,some (.agg [.own 52 [],.own 27 []])⟩),
 (194,⟨Tryz.t194.desc,3,56,some (.agg [.own 3 [],.own 3 [],vB false])⟩),
 (195,⟨Tryz.t194.desc,3,56,some (.agg [.own 3 [],.own 3 [],vB false])⟩),
 (199,⟨Tryz.t199.desc,1,8,some (AV.f (FV.pv Value.nilFunc))⟩),
 (200,⟨Tryz.t199.desc,1,8,some (AV.f (FV.pv Value.nilFunc))⟩),
 (202,⟨Tryz.t202.desc,1,8,some (AV.f (FV.pv Value.nilFunc))⟩),
 (212,⟨Tryz.t212.desc,1,8,some (vI .u64 0)⟩),
 (213,⟨Tryz.t213.desc,1,8,some (AV.f (FV.pv Value.nilFunc))⟩),
 (216,⟨Tryz.t216.desc,1,24,some (.own 195 [])⟩),
 (218,⟨Tryz.t218.desc,1,8,some (AV.f (FV.pv (Value.pointer Option.none)))⟩),
 (219,⟨Tryz.t219.desc,1,8,some (AV.f (FV.pv Value.nilFunc))⟩),
 (220,⟨Tryz.t219.desc,1,8,some (AV.f (FV.pv Value.nilFunc))⟩),
 (235,⟨Tryz.t235.desc,1,8,some (AV.f (FV.pv Value.nilFunc))⟩)]
theorem tyTab_ok:TabOk Tryz.prog tyTab:=⟨zG Tryz.underlying3 Tryz.type3 (by kernel_rfl),
 ⟨zG Tryz.underlying4 Tryz.type4 (by kernel_rfl),
 ⟨zG Tryz.underlying5 Tryz.type5 (by kernel_rfl),
 ⟨zG Tryz.underlying9 Tryz.type9 (by kernel_rfl),
 ⟨zG Tryz.underlying22 Tryz.type22 (by kernel_rfl),
 ⟨zG Tryz.underlying23 Tryz.type23 (by kernel_rfl),
 ⟨zG Tryz.underlying24 Tryz.type24 (by kernel_rfl),
 ⟨zG Tryz.underlying25 Tryz.type25 (by kernel_rfl),
 ⟨zG Tryz.underlying26 Tryz.type26 (by kernel_rfl),
 ⟨zG Tryz.underlying27 Tryz.type27 (by kernel_rfl),
 ⟨zG Tryz.underlying28 Tryz.type28 (by kernel_rfl),
 ⟨zG Tryz.underlying29 Tryz.type29 (by kernel_rfl),
 ⟨zG Tryz.underlying30 Tryz.type30 (by kernel_rfl),
 ⟨zG Tryz.underlying31 Tryz.type31 (by kernel_rfl),
 ⟨zG Tryz.underlying42 Tryz.type42 (by kernel_rfl),
 ⟨zG Tryz.underlying43 Tryz.type43 (by kernel_rfl),
 ⟨zG Tryz.underlying44 Tryz.type44 (by kernel_rfl),
 ⟨zG Tryz.underlying45 Tryz.type45 (by kernel_rfl),
 ⟨zG Tryz.underlying48 Tryz.type48 (by kernel_rfl),
 ⟨zG Tryz.underlying49 Tryz.type49 (by kernel_rfl),
 ⟨zG Tryz.underlying50 Tryz.type50 (by kernel_rfl),
 ⟨zG Tryz.underlying51 Tryz.type51 (by kernel_rfl),
 ⟨zG Tryz.underlying52 Tryz.type52 (by kernel_rfl),
 ⟨zG Tryz.underlying53 Tryz.type53 (by kernel_rfl),
 ⟨zG Tryz.underlying54 Tryz.type54 (by kernel_rfl),
 ⟨zG Tryz.underlying55 Tryz.type55 (by kernel_rfl),
 ⟨zG Tryz.underlying56 Tryz.type56 (by kernel_rfl),
 ⟨zG Tryz.underlying57 Tryz.type57 (by kernel_rfl),
 ⟨zG Tryz.underlying70 Tryz.type70 (by kernel_rfl),
 ⟨zG Tryz.underlying71 Tryz.type71 (by kernel_rfl),
 ⟨zG Tryz.underlying72 Tryz.type72 (by kernel_rfl),
 ⟨zG Tryz.underlying76 Tryz.type76 (by kernel_rfl),
 ⟨zG Tryz.underlying77 Tryz.type77 (by kernel_rfl),
 ⟨zG Tryz.underlying78 Tryz.type78 (by kernel_rfl),
 ⟨zG Tryz.underlying80 Tryz.type80 (by kernel_rfl),
 ⟨zG Tryz.underlying81 Tryz.type81 (by kernel_rfl),
 ⟨zG Tryz.underlying87 Tryz.type87 (by kernel_rfl),
 ⟨zG Tryz.underlying92 Tryz.type92 (by kernel_rfl),
 ⟨zG Tryz.underlying93 Tryz.type93 (by kernel_rfl),
 ⟨zG Tryz.underlying102 Tryz.type102 (by kernel_rfl),
 ⟨zG Tryz.underlying103 Tryz.type103 (by kernel_rfl),
 ⟨zG Tryz.underlying104 Tryz.type104 (by kernel_rfl),
 ⟨zG Tryz.underlying105 Tryz.type105 (by kernel_rfl),
 ⟨zG Tryz.underlying127 Tryz.type127 (by kernel_rfl),
 ⟨zG Tryz.underlying130 Tryz.type130 (by kernel_rfl),
 ⟨zG Tryz.underlying133 Tryz.type133 (by kernel_rfl),
 ⟨zG Tryz.underlying139 Tryz.type139 (by kernel_rfl),
 ⟨zG Tryz.underlying140 Tryz.type140 (by kernel_rfl),
 ⟨zG Tryz.underlying145 Tryz.type145 (by kernel_rfl),
 ⟨zG Tryz.underlying146 Tryz.type146 (by kernel_rfl),
 ⟨zG Tryz.underlying147 Tryz.type147 (by kernel_rfl),
 ⟨zG Tryz.underlying151 Tryz.type151 (by kernel_rfl),
 ⟨zG Tryz.underlying152 Tryz.type152 (by kernel_rfl),
 ⟨zG Tryz.underlying159 Tryz.type159 (by kernel_rfl),
 ⟨zG Tryz.underlying160 Tryz.type160 (by kernel_rfl),
 ⟨zG Tryz.underlying174 Tryz.type174 (by kernel_rfl),
 ⟨zG Tryz.underlying175 Tryz.type175 (by kernel_rfl),
 ⟨zG Tryz.underlying176 Tryz.type176 (by kernel_rfl),
 ⟨zG Tryz.underlying179 Tryz.type179 (by kernel_rfl),
 ⟨zG Tryz.underlying182 Tryz.type182 (by kernel_rfl),
 ⟨zG Tryz.underlying183 Tryz.type183 (by kernel_rfl),
 ⟨zG Tryz.underlying191 Tryz.type191 (by kernel_rfl),
 ⟨zG Tryz.underlying192 Tryz.type192 (by kernel_rfl),
 ⟨zG Tryz.underlying193 Tryz.type193 (by kernel_rfl),
 ⟨zG Tryz.underlying194 Tryz.type194 (by kernel_rfl),
 ⟨zG Tryz.underlying195 Tryz.type195 (by kernel_rfl),
 ⟨zG Tryz.underlying199 Tryz.type199 (by kernel_rfl),
 ⟨zG Tryz.underlying200 Tryz.type200 (by kernel_rfl),
 ⟨zG Tryz.underlying202 Tryz.type202 (by kernel_rfl),
 ⟨zG Tryz.underlying212 Tryz.type212 (by kernel_rfl),
 ⟨zG Tryz.underlying213 Tryz.type213 (by kernel_rfl),
 ⟨zG Tryz.underlying216 Tryz.type216 (by kernel_rfl),
 ⟨zG Tryz.underlying218 Tryz.type218 (by kernel_rfl),
 ⟨zG Tryz.underlying219 Tryz.type219 (by kernel_rfl),
 ⟨zG Tryz.underlying220 Tryz.type220 (by kernel_rfl),
 ⟨zG Tryz.underlying235 Tryz.type235 (by kernel_rfl),
 trivial⟩⟩⟩⟩⟩⟩⟩⟩⟩⟩⟩⟩⟩⟩⟩⟩⟩⟩⟩⟩⟩⟩⟩⟩⟩⟩⟩⟩⟩⟩⟩⟩⟩⟩⟩⟩⟩⟩⟩⟩⟩⟩⟩⟩⟩⟩⟩⟩⟩⟩⟩⟩⟩⟩⟩⟩⟩⟩⟩⟩⟩⟩⟩⟩⟩⟩⟩⟩⟩⟩⟩⟩⟩⟩⟩⟩
abbrev bT:Ora:=.b true
abbrev bF:Ora:=.b false
theorem oF {l:List Prop} (h:AllP l):AllP ((false=false) :: l):=⟨rfl,h⟩
section
variable {P : Program} {c : Cfg} {G G' : Sta} {K : Ex → Sta → Prop} {x : Code}
theorem sDE (hc:COk P c) (q:List Ora) (dr:List Nat) (ch ch':Sta) {obs:List Prop} (ho:AllP obs) (hk:Sem P c (sq2 x) (edt dr ch' G) K) (e':ch=ch':=by first | rfl | (simp only [nm,enq];done) | (simp only [n0];first | done | simp only [nm,enq])) (e:x=.seq (sq1 x) (sq2 x):=by kernel_rfl)
 (h:evReg P c (sq1 x) q [] (keysOf (edt dr ch G)) G=some (obs,edt dr ch G):=by kernel_rfl):Sem P c x G K:=by subst e';exact Sem.seqR hc e h ho hk
theorem endD {nt:Nat} {rs:List ResultVar} {n:Nat} (fz:List (Nat×Nat)) (r:AV) (l:List AV) {R:AV→List AV→Prop} (hR:R r l:=by first | exact ⟨rfl,rfl⟩ | (refine ⟨?_,?_⟩<;>(try simp only [nm,enq])<;>rfl) | (refine ⟨?_,?_⟩<;>simp only [nm,enq])) (h:evEnd P c rs n (Ev.frzs fz G)=some (r,l):=by kernel_rfl) :
 (∃ G',Wk P nt G G'∧endK (CallE P) c rs n R .ret G')∧(∃ G',Wk P nt G G'∧endK (CallE P) c rs n R .normal G'):=
 ⟨⟨_,Wk.frzs,(zcI h hR).1⟩,⟨_,Wk.frzs,(zcI h hR).2⟩⟩
end
end Go.Ev
namespace Go.Proofs
open Go.Shelf
def Tryz.lays189_ren:Go.Shelf.Ren:=⟨fun | 189=>142 | 125=>159 | 257=>158 | 128=>178 | 129=>179 | 294=>169 | 295=>170 | 296=>171 | 297=>172 | 298=>173 | 299=>174 | 216=>175 | 300=>176 | 301=>177 | 328=>184 | 329=>185 | 330=>186 | 331=>187 | 332=>188 | 215=>189 | 343=>190 | n=>n,fun | 28=>27 | 3=>3 | 46=>212 | 0=>0 | 51=>231 | 53=>50 | 4=>4 | 183=>225 | 182=>224 | 131=>228 | 5=>5 | 9=>9 | 218=>236 | 222=>240 | 228=>242 | 229=>90 | n=>n,fun | n=>n⟩
theorem Tryz.lays189:Go.Proofs.Lays.n189 Tryz.prog Tryz.lays189_ren:={
 mixed:=by kernel_rfl
 f125:=Tryz.func159.trans (congrArg some (by kernel_rfl))
 f128:=Tryz.func178.trans (congrArg some (by kernel_rfl))
 f129:=Tryz.func179.trans (congrArg some (by kernel_rfl))
 f189:=Tryz.func142.trans (congrArg some (by kernel_rfl))
 f215:=Tryz.func189.trans (congrArg some (by kernel_rfl))
 f216:=Tryz.func175.trans (congrArg some (by kernel_rfl))
 f257:=Tryz.func158.trans (congrArg some (by kernel_rfl))
 f294:=Tryz.func169.trans (congrArg some (by kernel_rfl))
 f295:=Tryz.func170.trans (congrArg some (by kernel_rfl))
 f296:=Tryz.func171.trans (congrArg some (by kernel_rfl))
 f297:=Tryz.func172.trans (congrArg some (by kernel_rfl))
 f298:=Tryz.func173.trans (congrArg some (by kernel_rfl))
 f299:=Tryz.func174.trans (congrArg some (by kernel_rfl))
 f300:=Tryz.func176.trans (congrArg some (by kernel_rfl))
 f301:=Tryz.func177.trans (congrArg some (by kernel_rfl))
 f328:=Tryz.func184.trans (congrArg some (by kernel_rfl))
 f329:=Tryz.func185.trans (congrArg some (by kernel_rfl))
 f330:=Tryz.func186.trans (congrArg some (by kernel_rfl))
 f331:=Tryz.func187.trans (congrArg some (by kernel_rfl))
 f332:=Tryz.func188.trans (congrArg some (by kernel_rfl))
 f343:=Tryz.func190.trans (congrArg some (by kernel_rfl))
 t0:=Tryz.underlying0
 a0:=Tryz.isAgg0
 z0:=Tryz.sizeOf0
 v0:=Tryz.zeroValue0
 t3:=Tryz.underlying3
 a3:=Tryz.isAgg3
 z3:=Tryz.sizeOf3
 v3:=Tryz.zeroValue3
 t4:=Tryz.underlying4
 a4:=Tryz.isAgg4
 z4:=Tryz.sizeOf4
 v4:=Tryz.zeroValue4
 t5:=Tryz.underlying5
 a5:=Tryz.isAgg5
 z5:=Tryz.sizeOf5
 v5:=Tryz.zeroValue5
 t9:=Tryz.underlying9
 a9:=Tryz.isAgg9
 z9:=Tryz.sizeOf9
 v9:=Tryz.zeroValue9
 t28:=Tryz.underlying27
 a28:=Tryz.isAgg27
 z28:=Tryz.sizeOf27
 v28:=Tryz.zeroValue27
 t46:=Tryz.underlying212
 a46:=Tryz.isAgg212
 z46:=Tryz.sizeOf212
 v46:=Tryz.zeroValue212
 t51:=Tryz.underlying231
 a51:=Tryz.isAgg231
 z51:=Tryz.sizeOf231
 v51:=Tryz.zeroValue231
 t53:=Tryz.underlying50
 a53:=Tryz.isAgg50
 z53:=Tryz.sizeOf50
 v53:=Tryz.zeroValue50
 t131:=Tryz.underlying228
 a131:=Tryz.isAgg228
 z131:=Tryz.sizeOf228
 v131:=Tryz.zeroValue228
 t182:=Tryz.underlying224
 a182:=Tryz.isAgg224
 z182:=Tryz.sizeOf224
 v182:=Tryz.zeroValue224
 t183:=Tryz.underlying225
 a183:=Tryz.isAgg225
 z183:=Tryz.sizeOf225
 v183:=Tryz.zeroValue225
 t218:=Tryz.underlying236
 a218:=Tryz.isAgg236
 z218:=Tryz.sizeOf236
 v218:=Tryz.zeroValue236
 t222:=Tryz.underlying240
 a222:=Tryz.isAgg240
 z222:=Tryz.sizeOf240
 v222:=Tryz.zeroValue240
 t228:=Tryz.underlying242
 a228:=Tryz.isAgg242
 z228:=Tryz.sizeOf242
 v228:=Tryz.zeroValue242
 t229:=Tryz.underlying90
 a229:=Tryz.isAgg90
 z229:=Tryz.sizeOf90
 v229:=Tryz.zeroValue90 }
open Go.Sort Go.RowKit in
theorem Tryz.slices_Sort_int (blk off cap:Nat) (zs:List Int) (w:World) (hH:Holds (Value.int .i64) w blk off zs.toArray) (hblk:blk < w.heap.size) (hsz:zs.length < 4611686018427387904) :
 Calls Tryz.prog 142 #[.slice (some ⟨blk,off,none⟩) zs.length cap] w fun e w'=>
  e=.returned (.tuple #[])∧∃ n os,w'=grow (putRow (Value.int .i64) (Sort.ahead w n) blk off (zs.mergeSort fun x y=>decide (x≤y)).toArray) os:=Any.slices_Sort_int Tryz.lays189 blk off cap zs w hH hblk hsz
def Tryz.laysNm220_ren:Go.Shelf.Ren:=⟨fun | 20=>143 | n=>n,fun | 22=>27 | 3=>3 | 4=>4 | 0=>0 | n=>n,fun | n=>n⟩
theorem Tryz.laysNm220:Go.Proofs.Lays2.n20 Tryz.prog Tryz.laysNm220_ren:={
 mixed:=by kernel_rfl
 f20:=Tryz.func143.trans (congrArg some (by kernel_rfl))
 t0:=Tryz.underlying0
 a0:=Tryz.isAgg0
 z0:=Tryz.sizeOf0
 v0:=Tryz.zeroValue0
 t3:=Tryz.underlying3
 a3:=Tryz.isAgg3
 z3:=Tryz.sizeOf3
 v3:=Tryz.zeroValue3
 t4:=Tryz.underlying4
 a4:=Tryz.isAgg4
 z4:=Tryz.sizeOf4
 v4:=Tryz.zeroValue4
 t22:=Tryz.underlying27
 a22:=Tryz.isAgg27
 z22:=Tryz.sizeOf27
 v22:=Tryz.zeroValue27
 i3:=by kernel_rfl }
open Go.RowKit Go.Lib Go.Sort in
theorem Tryz.slices_Compact_int (blk off cap:Nat) (zs:List Int) (w:World) (hH:Holds (Value.int .i64) w blk off zs.toArray) (hsz:zs.length≤9223372036854775807) (hcap:zs.length≤cap) :
 Calls Tryz.prog 143 #[.slice (some ⟨blk,off,none⟩) zs.length cap] w fun e w'=>e=.returned (.slice (some ⟨blk,off,none⟩) (Lib.compact zs).length cap)∧∃ q,w'=putRow (Value.int .i64) (Sort.ahead w q) blk off (Lib.compact zs++List.replicate (zs.length - (Lib.compact zs).length) 0).toArray:=Any.slices_Compact_int Tryz.laysNm220 blk off cap zs w hH hsz hcap
open Go.RowKit Go.Lib Go.Sort in
theorem Tryz.slices_Compact_int_empty (a:Option Addr) (cap:Nat) (w:World) :
 Calls Tryz.prog 143 #[.slice a 0 cap] w fun e w'=>e=.returned (.slice a 0 cap)∧w'=w:=Any.slices_Compact_int_empty Tryz.laysNm220 a cap w
open Go.RowKit Go.Sort in
theorem Tryz.slices_Sort_int_none (p:Option Addr) (cap:Nat) (w:World) :
 Calls Tryz.prog 142 #[.slice p 0 cap] w fun e w'=>e=.returned (.tuple #[])∧w'=w:=Any.slices_Sort_int_none Tryz.lays189 p cap w
end Go.Proofs
namespace Go.Ev
open Go Go.RowKit Go.Sort
variable {P : Program}
def fvInts:List FV→Option (List Int)
 | []=>some []
 | .pv (.int .i64 n) :: r=>match fvInts r with
   | some l=>some (n :: l)
   | none=>none
 | _=>none
theorem zfT:∀ {l:List FV} {zs:List Int},fvInts l=some zs→l=zs.map fun n=>.pv (.int .i64 n)
 | [],zs,h=>by simp only [fvInts,Option.some.injEq] at h;subst h;rfl
 | .pv (.int k n) :: r,zs,h=>by
   unfold fvInts at h
   split at h
   ·rename_i heq;cases heq
   ·rename_i heq
    cases heq
    split at h
    ·rename_i l hl
     simp only [Option.some.injEq] at h;subst h
     rw [zfT hl];rfl
    ·cases h
   ·cases h
 | .pv (.bool _) :: r,zs,h | .pv (.float _ _) :: r,zs,h | .pv (.complex _ _ _) :: r,zs,h | .pv (.string _) :: r,zs,h | .pv (.pointer _) :: r,zs,h | .pv (.slice _ _ _) :: r,zs,h
 | .pv (.map _) :: r,zs,h | .pv (.chan _) :: r,zs,h | .pv (.func _ _ _) :: r,zs,h | .pv .nilFunc :: r,zs,h | .pv (.iface _ _) :: r,zs,h | .pv .nilIface :: r,zs,h
 | .pv (.agg _) :: r,zs,h | .pv (.tuple _) :: r,zs,h | .agg _ :: r,zs,h | .sl _ :: r,zs,h=>by simp [fvInts] at h
theorem zhj (enc:Int→FV) (h:∀ n,enc n=.pv (.int .i64 n)):∀ zs:List Int,fvInts (zs.map enc)=some zs
 | []=>rfl
 | n :: r=>by simp only [List.map_cons,h n,fvInts,zhj enc h r]
def sortInts (zs:List Int):List Int:=zs.mergeSort fun x y=>decide (x≤y)
def compactInts (zs:List Int):List Int:=Lib.compact zs
def sortF (l:List FV):Option (List FV):=match fvInts l with
 | some zs=>if zs.length < 2 ^ 40 then some ((sortInts zs).map fun n=>.pv (.int .i64 n)) else none
 | none=>none
def compactF (l:List FV):Option (List FV):=match fvInts l with
 | some zs=>if zs.length < 2 ^ 40 then some ((compactInts zs).map fun n=>.pv (.int .i64 n)) else none
 | none=>none
theorem sortF_map (enc:Int→FV) (h:∀ n,enc n=.pv (.int .i64 n)) (zs:List Int) (hl:zs.length < 2 ^ 40):sortF (zs.map enc)=some ((sortInts zs).map enc):=by
 have:enc=fun n=>.pv (.int .i64 n):=funext h
 unfold sortF
 rw [zhj enc h]
 dsimp only
 rw [if_pos hl,this]
theorem zhS (enc:Int→FV) (h:∀ n,enc n=.pv (.int .i64 n)) (zs:List Int) (hl:zs.length < 2 ^ 40):compactF (zs.map enc)=some ((compactInts zs).map enc):=by
 have:enc=fun n=>.pv (.int .i64 n):=funext h
 unfold compactF
 rw [zhj enc h]
 dsimp only
 rw [if_pos hl,this]
abbrev HasF (P:Program) (g:FuncId):Prop:=∃ fn,P.funcs[g]?=some fn∧(fn.name == "runtime.NumGoroutine")=false∧fn.body.isNone=false
theorem ownB_ints {own:Own} {w:World} {b o:Nat} {E:TypeId} {k n:Nat} {zs:List Int} (h:OwnB P own w b o E k (zs.map fun n=>.pv (.int .i64 n)) n) (hE:esz P E=1) :
 ∃ arr,w.heap[k]?=some (.cells arr E (0,0))∧n≤arr.size∧Holds (Value.int .i64) w k 0 zs.toArray∧k < w.heap.size:=by
 obtain ⟨_,arr,h2,h3,h4,h5⟩:=h
 rw [hE] at h3 h5
 have hk:k < w.heap.size:=(Array.getElem?_eq_some_iff.1 h2).1
 refine ⟨arr,h2,by omega,fun j hj=>?_,hk⟩
 have hj':j < zs.length:=by simpa using hj
 obtain ⟨v,e1,e2⟩:=h5 j (.pv (.int .i64 zs[j])) 0 (.pv (.int .i64 zs[j])) (by simp [hj']) rfl
 cases e2
 have he:zs.toArray[j]! = zs[j]:=by simp [hj']
 constructor
 ·simp only [World.cell?,h2,Nat.zero_add]
  rw [he];simpa using e1
 ·simp [World.frozen?,h2]
theorem zfD {enc:Int→Value} {w:World} {k off j:Nat} {d:Array Int} (h:j≠k):(putRow enc w k off d).heap[j]?=w.heap[j]?:=by
 simp only [putRow,mapBlock,Array.getElem?_modify]
 rw [if_neg (Ne.symm h)]
theorem zjD {enc:Int→Value} {w:World} {k off:Nat} {d:Array Int} {arr:Array Value} {E:TypeId} {f:Nat×Nat} (h:w.heap[k]?=some (.cells arr E f)):(putRow enc w k off d).heap[k]?=some (.cells (putCells enc off d arr) E f):=by
 simp only [putRow,mapBlock,Array.getElem?_modify,if_true,h,Option.map_some]
 rfl
theorem ownB_put' {own:Own} {w w':World} {b o:Nat} {E:TypeId} {k n:Nat} {zs ys:List Int} (h:OwnB P own w b o E k (zs.map fun n=>.pv (.int .i64 n)) n) (hE:esz P E=1) {d:Array Int}
 (hw:w'.heap[k]?=(putRow (Value.int .i64) w k 0 d).heap[k]?) (hlen:ys.length≤d.size) (hd:∀ j,j < ys.length→d[j]! = ys[j]!) (hsz:d.size≤zs.length):OwnB P own w' b o E k (ys.map fun n=>.pv (.int .i64 n)) n:=by
 obtain ⟨h1,arr,h2,h3,h4,h5⟩:=h
 refine ⟨h1,putCells (Value.int .i64) 0 d arr,by rw [hw,zjD h2],by simpa [putCells] using h3,?_,?_⟩
 ·intro x hx
  simp only [List.mem_map] at hx
  obtain ⟨y,_,rfl⟩:=hx
  rw [hE];rfl
 ·intro i x j y e1 e2
  simp only [List.getElem?_map,Option.map_eq_some_iff] at e1
  obtain ⟨z,e1,rfl⟩:=e1
  have hj:j=0:=by
   cases j with
   | zero=>rfl
   | succ j=>simp [FV.cells] at e2
  subst hj
  have hi:i < ys.length:=(List.getElem?_eq_some_iff.1 e1).1
  simp [FV.cells] at e2;subst e2
  have hE':=hE
  rw [hE]
  refine ⟨.int .i64 z,?_,RF.pv _ rfl⟩
  have hia:i < arr.size:=by
   have hiz:i < zs.length:=by omega
   obtain ⟨v,e3,_⟩:=h5 i (.pv (.int .i64 zs[i])) 0 (.pv (.int .i64 zs[i])) (by simp [hiz]) rfl
   rw [hE] at e3
   have:=(Array.getElem?_eq_some_iff.1 e3).1
   omega
  simp only [putCells,Array.getElem?_mapIdx,Nat.mul_one,Nat.add_zero,Array.getElem?_eq_getElem hia,Option.map_some,Nat.zero_le,true_and,Nat.zero_add,Nat.sub_zero]
  rw [if_pos (by omega),hd i hi]
  have:=(List.getElem?_eq_some_iff.1 e1).2
  simp [hi,this]
theorem ip_sort {g:FuncId} (hf:HasF P g) (hE:∀ own w b o E l u k n,OwnL P own w b o E l u→OwnB P own w b o E k l n→l≠[]→(∀ x∈l,x.size=1)→esz P E=1)
 (hs:∀ (blk off cap:Nat) (zs:List Int) (w:World),Holds (Value.int .i64) w blk off zs.toArray→blk < w.heap.size→zs.length < 4611686018427387904→
   Calls P g #[.slice (some ⟨blk,off,none⟩) zs.length cap] w fun e w'=>e=.returned (.tuple #[])∧∃ n os,w'=grow (putRow (Value.int .i64) (Sort.ahead w n) blk off (zs.mergeSort fun x y=>decide (x≤y)).toArray) os)
 (hn:∀ (p:Option Addr) (cap:Nat) (w:World),Calls P g #[.slice p 0 cap] w fun e w'=>e=.returned (.tuple #[])∧w'=w):IpOk P g sortF false:=by
 refine ⟨hf,fun own w b o E l l' u hl hlt hone hu=>?_⟩
 unfold sortF at hl
 split at hl
 ·rename_i zs hz
  split at hl
  ·rename_i hlen
   simp only [Option.some.injEq] at hl;subst hl
   have hlz:=zfT hz
   subst hlz
   have hu0:=hu
   obtain ⟨a,c,rfl,hc,h3⟩:=hu
   by_cases hnil:zs=[]
   ·subst hnil
    refine (hn a c w).mono ?_
    rintro e w' ⟨rfl,rfl⟩
    refine ⟨_,rfl,Nat.le_refl _,fun _ _ _=>rfl,rfl,rfl,rfl,?_⟩
    rw [if_neg (by simp)]
    exact ⟨rfl,fun k n h=>by simpa [sortInts] using h⟩
   ·rcases h3 with ⟨_,h,_⟩ | ⟨k,rfl,hB⟩
    ·simp at h;exact absurd h hnil
    ·have hE1:esz P E=1:=hE _ _ _ _ _ _ _ _ _ hu0 hB (by simpa using hnil) (fun x hx=>by simp only [List.mem_map] at hx;obtain ⟨y,_,rfl⟩:=hx;rfl)
     obtain ⟨arr,q1,q2,q3,q4⟩:=ownB_ints hB hE1
     have hll:(zs.map fun n=>FV.pv (.int .i64 n)).length=zs.length:=by simp
     rw [hll] at hc ⊢
     refine (hs k 0 c zs w q3 q4 (by omega)).mono ?_
     rintro e w' ⟨rfl,m,os,rfl⟩
     have hheap:∀ j,j < w.heap.size→(grow (putRow (Value.int .i64) (Sort.ahead w m) k 0 (zs.mergeSort fun x y=>decide (x≤y)).toArray) os).heap[j]?=(putRow (Value.int .i64) w k 0 (zs.mergeSort fun x y=>decide (x≤y)).toArray).heap[j]?:=fun j hj=>by
      simp only [grow]
      rw [Array.getElem?_append_left (by simpa using hj)]
      rfl
     refine ⟨_,rfl,by simp [grow],fun j hj hne=>?_,rfl,rfl,rfl,?_⟩
     ·rw [hheap j hj,zfD]
      intro e;subst e;exact hne hB.1
     ·rw [if_neg (by simp)]
      refine ⟨rfl,fun k' n' hB'=>?_⟩
      have:k'=k:=hone _ _ _ hB'.1 hB.1
      subst this
      refine ownB_put' hB' hE1 (hheap k' q4) (by simp [sortInts]) (fun j hj=>by simp [sortInts]) (by simp)
  ·cases hl
 ·cases hl
theorem ip_compact {g:FuncId} (hf:HasF P g) (hE:∀ own w b o E l u k n,OwnL P own w b o E l u→OwnB P own w b o E k l n→l≠[]→(∀ x∈l,x.size=1)→esz P E=1)
 (hs:∀ (blk off cap:Nat) (zs:List Int) (w:World),Holds (Value.int .i64) w blk off zs.toArray→zs.length≤9223372036854775807→zs.length≤cap→
   Calls P g #[.slice (some ⟨blk,off,none⟩) zs.length cap] w fun e w'=>e=.returned (.slice (some ⟨blk,off,none⟩) (Lib.compact zs).length cap)∧∃ q,w'=putRow (Value.int .i64) (Sort.ahead w q) blk off (Lib.compact zs++List.replicate (zs.length - (Lib.compact zs).length) 0).toArray)
 (hn:∀ (a:Option Addr) (cap:Nat) (w:World),Calls P g #[.slice a 0 cap] w fun e w'=>e=.returned (.slice a 0 cap)∧w'=w)
 (hle:∀ zs,(Lib.compact zs:List Int).length≤zs.length):IpOk P g compactF true:=by
 refine ⟨hf,fun own w b o E l l' u hl hlt hone hu=>?_⟩
 unfold compactF at hl
 split at hl
 ·rename_i zs hz
  split at hl
  ·rename_i hlen
   simp only [Option.some.injEq] at hl;subst hl
   have hlz:=zfT hz
   subst hlz
   have hu0:=hu
   obtain ⟨a,c,rfl,hc,h3⟩:=hu
   have hcl:=hle zs
   by_cases hnil:zs=[]
   ·subst hnil
    have hc0:Lib.compact ([]:List Int)=[]:=List.length_eq_zero_iff.1 (by simpa using hcl)
    refine (hn a c w).mono ?_
    rintro e w' ⟨rfl,rfl⟩
    refine ⟨_,rfl,Nat.le_refl _,fun _ _ _=>rfl,rfl,rfl,rfl,?_⟩
    rw [if_pos rfl]
    simp only [compactInts,hc0,List.map_nil]
    exact hu0
   ·rcases h3 with ⟨_,h,_⟩ | ⟨k,rfl,hB⟩
    ·simp at h;exact absurd h hnil
    ·have hE1:esz P E=1:=hE _ _ _ _ _ _ _ _ _ hu0 hB (by simpa using hnil) (fun x hx=>by simp only [List.mem_map] at hx;obtain ⟨y,_,rfl⟩:=hx;rfl)
     obtain ⟨arr,q1,q2,q3,q4⟩:=ownB_ints hB hE1
     have hll:(zs.map fun n=>FV.pv (.int .i64 n)).length=zs.length:=by simp
     rw [hll] at hc ⊢
     refine (hs k 0 c zs w q3 (by omega) hc).mono ?_
     rintro e w' ⟨rfl,m,rfl⟩
     refine ⟨_,rfl,by simp,fun j hj hne=>?_,rfl,rfl,rfl,?_⟩
     ·rw [zfD]
      ·rfl
      ·intro e;subst e;exact hne hB.1
     ·rw [if_pos rfl]
      refine ⟨_,c,by simp [compactInts],by simp [compactInts];omega,.inr ⟨k,rfl,?_⟩⟩
      refine ownB_put' hB hE1 rfl (by simp [compactInts]) (fun j hj=>?_) (by simp;omega)
      simp only [compactInts] at hj ⊢
      have hj2:j < (Lib.compact zs++List.replicate (zs.length - (Lib.compact zs).length) 0).length:=by simp;omega
      simp [hj,List.getElem?_append_left hj]
  ·cases hl
 ·cases hl
theorem gr_grow {g:FuncId} {E:TypeId} (hf:HasF P g) (hsz:esz P E=1) (hE0:∀ w n,0 < n→n≤2 ^ 40→Calls P g #[.slice none 0 0,.int .i64 (n:Nat)] w fun e w'=>∃ cap arr m,e=.returned (.slice (some ⟨w.heap.size,0,none⟩) 0 cap)∧w'=({ w with drawn:=m }:World).alloc (.cells arr E)∧cap≤arr.size)
 (h0:∀ w,Calls P g #[.slice none 0 0,.int .i64 0] w fun e w'=>e=.returned (.slice none 0 0)∧w'=w):GrOk P g E:=by
 refine ⟨hf,fun w n hn hn2=>?_⟩
 by_cases hz:n=0
 ·subst hz
  exact (h0 w).mono fun e w' h=>.inl h
 ·obtain ⟨m,rfl⟩:∃ m:Nat,n=m:=⟨n.toNat,by omega⟩
  refine (hE0 w m (by omega) (by omega)).mono ?_
  rintro e w' ⟨cap,arr,q,rfl,rfl,hc⟩
  exact .inr ⟨cap,arr,q,rfl,rfl,by rw [hsz];omega⟩
end Go.Ev
namespace Go.Ev
open Go Go.RowKit
variable {P : Program}
def endNw (tr:Nat) (v:AV):Ex→Sta→Prop:=fun e G=>(e=.normal∨e=.ret)∧∃ b,get G (tb tr)=some (.ptr b 0)∧isM b=false∧b % 3=2∧get G b=some v
theorem nw_marks {c:Cfg} {fn:Func} {F:Fence} {n:Nat} {own:Own} {a a':Act} {w w':World} {G':Sta} {own':Own} {v:AV} {tr:Nat} (ha:a.defers=[]) (hres:fn.results.toList=[.tmp tr])
 (s':St P c.nt G' own' a' w') (t':Tr own w own' w') (d':Mks w own' w' a a') {b:Nat} (hg1:get G' (tb tr)=some (.ptr b 0)) (hm:isM b=false) (hb:b % 3=2) (hg2:get G' b=some v)
 (hs:shut1 true (fun _=>false) v=true) :
 LeavesInM F n P fn a'.tmps (fun e w'=>∃ k own' arr T b0,e=.returned (.pointer (some ⟨k,0,none⟩))∧Tr own w own' w'∧Outs P own' w' []∧own' k=some (.box b0)∧w'.heap[k]?=some (.cells arr T (0,0))∧RB P [] own' w' b0 v arr) a'.defers .returning w':=by
 obtain ⟨ds,e1,n1,h1⟩:=d'
 rw [e1,ha,List.append_nil]
 refine zeQ ds w' n1 (fun D hD=>(h1 D hD).2.2) ?_
 intro w2 ck k2 k3 k4 k5
 have t2:Tr own w own' w2:=⟨Nat.le_trans t'.size ck.size,fun k hk ho=>by
  obtain ⟨q1,q2⟩:=t'.keep k hk ho
  exact ⟨q1,(k5 k fun hm=>absurd (h1 k hm).1 (by omega)).trans q2⟩,k2.trans t'.os,k3.trans t'.tape,k4.trans t'.output,fun k o ho=>by
  obtain ⟨q1,q2⟩:=t'.al k o ho
  exact ⟨q1,(k5 k fun hm=>by have:=(h1 k hm).2.1;rw [q1] at this;cases this).trans q2⟩,t'.bx⟩
 have s2:=s'.ck ck
 have hr:=zeS s2 hg1
 obtain ⟨k,q1,q2⟩:=RC.ptr (w:=w2) hr hm
 obtain ⟨k',arr,T,r1,r2,r3⟩:=s2.boxes b v (by omega) hm hg2
 have:=s2.one _ _ _ r1 q1
 subst this
 refine ⟨_,?_,k',own',arr,T,b,rfl,t2,⟨fun i v h=>by simp at h,s2.one,s2.lt⟩,r1,r2,?_⟩
 ·rw [zd7 (us:=[Value.pointer (some ⟨k',0,none⟩)]) (by rw [hres];rfl) (fun j x y f1 f2=>by
   rw [hres] at f1
   cases j with
   | zero=>simp at f1 f2;subst f1 f2;simp only [resVal];rw [q2];rfl
   | succ j=>simp at f1)]
  rfl
 ·have:=ziD (P:=P) (G':=[]) (own':=own') (p:=fun _=>false) (f:=id) (b':=b) (fun _ h=>h) (fun _ _ h=>by cases h) (fun _ h=>by cases h) (fun k j h=>h) r3 hs
  rwa [ziE] at this
theorem nwOk_sem {c:Cfg} {fn:Func} {x:Code} {g:FuncId} {h:List AV→Option AV} {tr:Nat} (hf:P.funcs[g]?=some fn)
 (hnm:(fn.name == "runtime.NumGoroutine")=false) (hb:fn.body=some x) (hnt:c.nt=fn.ntmps) (hres:fn.results.toList=[.tmp tr])
 (H:∀ args v,h args=some v→args.length≤fn.ntmps∧args.length≤64∧shut1 true (fun _=>false) v=true∧
   Sem P c x (entryF 64 0 args []) fun e G=>∃ G',Wk P c.nt G G'∧endNw tr v e G'):NwOk P g h:=by
 refine ⟨⟨fn,hf,hnm,by rw [hb];rfl⟩,fun own w args vs v hsa hv hO hA=>?_⟩
 obtain ⟨hlen,hl2,hs,hS⟩:=H args v hv
 rw [← callsIn_wide (n:=0)]
 have ha:args.all (shut1 false fun _=>true)=true:=List.all_eq_true.2 fun x hx=>by
  have h1:=List.all_eq_true.1 hsa x hx
  have h0:∀ y:AV,shut0 false (fun _=>false) y=true→shut0 false (fun _=>true) y=true:=by
   intro y hy
   cases y with
   | clo g caps=>
     simp only [shut0,List.all_eq_true] at hy ⊢
     intro z hz
     have:=hy z hz
     cases z<;>simp [capIn] at this ⊢
   | _=>simp [shut0,capIn] at hy ⊢
  cases x with
  | agg l=>simp only [shut1,List.all_eq_true] at h1 ⊢;exact fun y hy=>h0 y (h1 y hy)
  | clo g caps=>exact h0 (.clo g caps) h1
  | own E l=>cases h1
  | rf a b c d=>cases h1
  | ep a b c d=>cases h1
  | tup l=>cases h1
  | _=>first | rfl | cases h1
 have s0:=st_entry (nt:=c.nt) (outs:=[]) (by rw [hnt];exact hlen) (argOk_all ha) rfl hO hA
 rw [zeY _ _ _ _ (by simpa using hl2)] at hS
 refine callsIn_of_wp_marks hf hb trivial ?_
 rw [← hnt]
 refine hS own _ w _ _ _ ⟨wideF,fun _=>rfl⟩ s0 ?_
 rintro e G0 own0 a' w' ⟨G',hw,he,b,g1,g2,g3,g4⟩ s' t' d'
 obtain ⟨own',s',t2⟩:=hw own0 a' w' s'
 replace d':=d'.tr t2
 replace t':=t'.trans t2
 cases e with
 | normal=>exact nw_marks rfl hres s' t' d' g1 g2 g3 g4 hs
 | ret=>exact nw_marks rfl hres s' t' d' g1 g2 g3 g4 hs
 | exit id=>rcases he with he | he<;>cases he
end Go.Ev
namespace Go.Ev
open Go Go.Proofs
set_option maxRecDepth 8000
def growRen:Go.Shelf.Ren:=⟨fun | 4=>157 | n=>n,fun | 22=>27 | 25=>3 | n=>n,fun n=>n⟩
theorem growLays:Lays8.n4 Tryz.prog growRen:={
 mixed:=by kernel_rfl
 f4:=⟨Tryz.f157.name,by rfl,Tryz.func157.trans (congrArg some (by kernel_rfl))⟩
 t0:=Tryz.underlying0
 a0:=Tryz.isAgg0
 z0:=Tryz.sizeOf0
 v0:=Tryz.zeroValue0
 t3:=Tryz.underlying3
 a3:=Tryz.isAgg3
 z3:=Tryz.sizeOf3
 v3:=Tryz.zeroValue3
 t4:=Tryz.underlying4
 a4:=Tryz.isAgg4
 z4:=Tryz.sizeOf4
 v4:=Tryz.zeroValue4
 t9:=Tryz.underlying9
 a9:=Tryz.isAgg9
 z9:=Tryz.sizeOf9
 v9:=Tryz.zeroValue9
 t20:=Tryz.underlying20
 a20:=Tryz.isAgg20
 z20:=Tryz.sizeOf20
 v20:=Tryz.zeroValue20
 t22:=Tryz.underlying27
 a22:=Tryz.isAgg27
 z22:=Tryz.sizeOf27
 v22:=Tryz.zeroValue27 }
def ipTab (g:FuncId):Option ((List FV→Option (List FV))×Bool):=
 match Nat.beq g 142 with
 | true=>some (sortF,false)
 | false=>match Nat.beq g 143 with
   | true=>some (compactF,true)
   | false=>none
def grTab (g:FuncId):Option TypeId:=
 match Nat.beq g 157 with
 | true=>some 3
 | false=>none
theorem esz_one {own:Own} {w:World} {b o:Nat} {E:TypeId} {l:List FV} {u:Value} {k n:Nat} (h:OwnL Tryz.prog own w b o E l u) (h2:OwnB Tryz.prog own w b o E k l n) (hne:l≠[]) (hs:∀ x∈l,x.size=1):esz Tryz.prog E=1:=by
 obtain ⟨_,arr,_,_,h4,_⟩:=h2
 cases l with
 | nil=>exact absurd rfl hne
 | cons x r=>rw [← h4 x (List.mem_cons_self ..)];exact hs x (List.mem_cons_self ..)
theorem sort_ok:IpOk Tryz.prog 142 sortF false:=
 ip_sort ⟨_,Tryz.func142,by rfl,by rfl⟩ (fun _ _ _ _ _ _ _ _ _ h h2 h3 h4=>esz_one h h2 h3 h4) Tryz.slices_Sort_int Tryz.slices_Sort_int_none
theorem compact_ok:IpOk Tryz.prog 143 compactF true:=
 ip_compact ⟨_,Tryz.func143,by rfl,by rfl⟩ (fun _ _ _ _ _ _ _ _ _ h h2 h3 h4=>esz_one h h2 h3 h4) Tryz.slices_Compact_int Tryz.slices_Compact_int_empty Lib.compact_length_le
theorem grow_ok:GrOk Tryz.prog 157 3:=by
 refine gr_grow ⟨_,Tryz.func157,by rfl,by rfl⟩ (by kernel_rfl) (fun w n h0 h1=>?_) (fun w=>?_)
 ·refine (Any8.slices_Grow_grow growLays Tryz.t3 (.int .i64 0) Tryz.type3 (by kernel_rfl) (Nat.le_of_ble_eq_true rfl) none 0 0 n [] w (Nat.le_refl _) (by omega) ?_ (by omega) rfl (fun _=>rfl) (fun a h=>by cases h)).mono ?_
  ·have:Tryz.t3.bytes=8:=rfl
   rw [this];omega
  ·rintro e w' ⟨rfl,rfl⟩
   refine ⟨_,_,w.drawn+1,rfl,rfl,?_⟩
   have h1:(Value.int IntKind.i64 0).cells.size=1:=rfl
   simp [Builtin.zeroCells,h1]
   omega
 ·exact (Any8.slices_Grow_room growLays none 0 0 0 w (Nat.le_refl _) (by omega) (by omega) (by omega)).mono fun e w' h=>h
def eqTab (t:TypeId):Bool:=
 match Nat.beq t 81 with
 | true=>true
 | false=>Nat.beq t 49
theorem tabsOk (mv:List Nat) (nt:Nat) (nw:FuncId→Option (List AV→Option AV)) (hn:∀ g f,nw g=some f→NwOk Tryz.prog g f):IpsOk Tryz.prog (mkCfgN tyTab ipTab grTab eqTab nw mv nt):=by
 refine ⟨fun g f back h=>?_,fun g E h=>?_,fun t h=>?_,fun g f h=>hn g f h⟩
 ·change ipTab g=some (f,back) at h
  unfold ipTab at h
  split at h
  ·rename_i e
   simp only [Option.some.injEq,Prod.mk.injEq] at h
   obtain ⟨rfl,rfl⟩:=h
   rw [Nat.eq_of_beq_eq_true e];exact sort_ok
  ·split at h
   ·rename_i e
    simp only [Option.some.injEq,Prod.mk.injEq] at h
    obtain ⟨rfl,rfl⟩:=h
    rw [Nat.eq_of_beq_eq_true e];exact compact_ok
   ·cases h
 ·change grTab g=some E at h
  unfold grTab at h
  split at h
  ·rename_i e
   simp only [Option.some.injEq] at h;subst h
   rw [Nat.eq_of_beq_eq_true e];exact grow_ok
  ·cases h
 ·change eqTab t=true at h
  unfold eqTab at h
  split at h
  ·rename_i e
   rw [Nat.eq_of_beq_eq_true e]
   exact ⟨Tryz.stoodInHeld81,Tryz.eqGuardType81,by kernel_rfl⟩
  ·rw [Nat.eq_of_beq_eq_true h]
   exact ⟨Tryz.stoodInHeld49,Tryz.eqGuardType49,by kernel_rfl⟩
theorem rb_nil {P:Program} {G:Sta} {own:Own} {w:World} {b j:Nat} {E:TypeId} {l:List AV} {arr:Array Value} (h:RB P G own w b (.agg l) arr) (hl:l[j]?=some (.f (.pv (.slice none 0 0)))):RB P G own w b (.agg (l.set j (.own E []))) arr:=by
 refine ⟨by simpa [AV.leaves] using h.1,fun i x u e1 e2=>?_⟩
 simp only [AV.leaves] at e1
 rw [List.getElem?_set] at e1
 split at e1
 ·rename_i e
  subst e
  split at e1
  ·cases e1
   have hr:=h.2 j _ u (by simpa [AV.leaves] using hl) e2
   have hu:u=.slice none 0 0:=by
    obtain ⟨_,hf⟩:=hr
    cases hf;rfl
   subst hu
   exact ⟨none,0,rfl,Nat.le_refl _,.inl ⟨rfl,rfl,rfl⟩⟩
  ·cases e1
 ·exact h.2 i x u (by simpa [AV.leaves] using e1) e2
noncomputable def ti44:TI:=⟨Tryz.t43.desc,2,32,some (.agg [.f (.pv (.slice none 0 0)),.f (.pv (.int .i64 0))])⟩
theorem ti44_ok:TiOk Tryz.prog 44 ti44:=by
 have h:TiOk Tryz.prog 44 ⟨Tryz.t43.desc,2,32,some (.agg [.own 49 [],.f (.pv (.int .i64 0))])⟩:=tiOf_ok (zgk tyTab_ok _ (zgj (t:=44) (by kernel_rfl)))
 obtain ⟨f,h1,h2,h3,h4⟩:=h.info
 refine ⟨h.und,f,h1,h2,h3,fun z hz=>?_⟩
 cases hz
 obtain ⟨zv,e1,arr,rfl,e3,e4⟩:=h4 _ rfl
 refine ⟨_,e1,arr,rfl,e3,fun j x v a b=>?_⟩
 match j with
 | 0=>simp at a;subst a;exact ⟨e4 0 _ _ rfl b,rfl⟩
 | 1=>simp at a;subst a;exact e4 1 _ _ rfl b
 | j+2=>simp at a
noncomputable def ti0 (t:TypeId):Option TI:=
 match Nat.beq t 44 with
 | true=>some ti44
 | false=>tabTI tyTab t
noncomputable def cf0 (nt:Nat):Cfg:={ mkCfgN tyTab ipTab grTab eqTab (fun _=>none) [] nt with ti:=ti0 }
theorem cf0Ok (nt:Nat):COk Tryz.prog (cf0 nt):=by
 refine ⟨fun t i h=>?_,zch (tabsOk [] nt (fun _=>none) fun _ _ h=>by cases h) rfl rfl rfl rfl,by rfl⟩
 change ti0 t=some i at h
 unfold ti0 at h
 split at h
 ·rename_i e
  cases h
  rw [Nat.eq_of_beq_eq_true e];exact ti44_ok
 ·exact tiOf_ok (zgk tyTab_ok _ (zgj h))
def newScan0:List AV→Option AV
 | [.agg [.f a1,.f a2,.f a3,.f a4,.f a5,.f a6,.f a7,.f a8,.f a9,.f a10,.f a11],.f w]=>some (.agg [.f a1,.f a2,.f a3,.f a4,.f a5,.f a6,.f a7,.f a8,.f a9,.f a10,.f a11,.f w,vi 0,vi 0,.f (.pv (.slice none 0 0)),vi (-1)])
 | _=>none
def newScan:List AV→Option AV
 | [.agg [.f a1,.f a2,.f a3,.f a4,.f a5,.f a6,.f a7,.f a8,.f a9,.f a10,.f a11],.f w]=>some (.agg [.f a1,.f a2,.f a3,.f a4,.f a5,.f a6,.f a7,.f a8,.f a9,.f a10,.f a11,.f w,vi 0,vi 0,.own 49 [],vi (-1)])
 | _=>none
theorem ziM:NwOk Tryz.prog 33 newScan0:=by
 refine nwOk_sem (c:=cf0 10) (x:=bodyOf Tryz.f33) (tr:=4) Tryz.func33 (by rfl) (by rfl) (by rfl) (by rfl) fun args v h=>?_
 unfold newScan0 at h
 split at h
 ·rename_i a1 a2 a3 a4 a5 a6 a7 a8 a9 a10 a11 w
  cases h
  refine ⟨Nat.le_of_ble_eq_true rfl,Nat.le_of_ble_eq_true rfl,rfl,?_⟩
  have kk:=cf0Ok 10
  refine wkS [1,4] [(1,.agg [.f a1,.f a2,.f a3,.f a4,.f a5,.f a6,.f a7,.f a8,.f a9,.f a10,.f a11]),(4,.f w)] (by kernel_rfl) ?_
  refine sDE kk [] [] [(7,.ptr 14 0),(14,.agg [.f a1,.f a2,.f a3,.f a4,.f a5,.f a6,.f a7,.f a8,.f a9,.f a10,.f a11])] [(7,.ptr 14 0),(14,.agg [.f a1,.f a2,.f a3,.f a4,.f a5,.f a6,.f a7,.f a8,.f a9,.f a10,.f a11])] obN ?_
  refine sDE kk [] [1,4,7,14] [(13,.ptr 56 0),(56,.agg [.f a1,.f a2,.f a3,.f a4,.f a5,.f a6,.f a7,.f a8,.f a9,.f a10,.f a11,.f w,vi 0,vi 0,.f (.pv (.slice none 0 0)),vi (-1)])] [(13,.ptr 56 0),(56,.agg [.f a1,.f a2,.f a3,.f a4,.f a5,.f a6,.f a7,.f a8,.f a9,.f a10,.f a11,.f w,vi 0,vi 0,.f (.pv (.slice none 0 0)),vi (-1)])] obN ?_
  refine tD ?_
  exact ⟨_,Wk.refl,.inr rfl,56,rfl,rfl,rfl,rfl⟩
 ·cases h
theorem newScan_ok:NwOk Tryz.prog 33 newScan:=by
 refine ⟨ziM.1,fun own w args vs v hsa hv hO hA=>?_⟩
 unfold newScan at hv
 split at hv
 ·cases hv
  refine (ziM.2 own w _ vs _ hsa rfl hO hA).mono ?_
  rintro e w' ⟨k,own',arr,T,b0,h1,h2,h3,h4,h5,h6⟩
  exact ⟨k,own',arr,T,b0,h1,h2,h3,h4,h5,rb_nil (j:=14) (E:=49) h6 rfl⟩
 ·cases hv
def nwTab (g:FuncId):Option (List AV→Option AV):=
 match Nat.beq g 33 with
 | true=>some newScan
 | false=>none
theorem nwTab_ok (g:FuncId) (f:List AV→Option AV) (h:nwTab g=some f):NwOk Tryz.prog g f:=by
 unfold nwTab at h
 split at h
 ·rename_i e
  cases h
  rw [Nat.eq_of_beq_eq_true e];exact newScan_ok
 ·cases h
def apTab (g:FuncId):Bool:=Nat.beq g 70
noncomputable def cf (mv:List Nat) (nt:Nat):Cfg:={ mkCfgN tyTab ipTab grTab eqTab nwTab mv nt with ap:=apTab }
theorem cfOk (mv:List Nat) (nt:Nat):COk Tryz.prog (cf mv nt):=(mkCfgN_ok tyTab_ok (by rfl) (tabsOk _ _ _ nwTab_ok)).withAp apTab
end Go.Ev
namespace Go.Ev
open Go Go.Proofs
set_option maxRecDepth 8000
noncomputable def cfr (mv:List Nat) (nt:Nat):Cfg:={ cf mv nt with rnd:=true }
theorem cfrOk (mv:List Nat) (nt:Nat):COk Tryz.prog (cfr mv nt):=⟨(cfOk mv nt).cfg,zch (cfOk mv nt).ip rfl rfl rfl rfl,(cfOk mv nt).ro⟩
theorem back_ok_183:BackOk Tryz.prog 183 zt:=
 back_of (c:=cf [] 19) (cfOk [] 19) Tryz.func183 (by rfl) (by rfl) (by rfl) (by rfl) (agg:=true) (sz:=3) (fun x=>by simp [FV.fits,FV.size,FV.cells,FV.one,zae]) (fun x=>rfl) (fun h=>by cases h) (by rfl)
  (by rfl) (by rfl) (by rfl) (by rfl) (pre:=(opsOf (sq1 (sq1 (sq1 (sq2 (sq1 (sq1 (sq2 (bodyOf Tryz.f183))))))))).take 6) (by rfl) (by rfl) (by rfl) (by rfl)
  (fun yv xs=>⟨[],[(1,.f (.pv yv)),(4,.fp (.sl (xs.map (encX true 3))) 0),(10,vi (w64 (((xs.map (encX true 3)).length:Int) - 1))),(13,.f (.sl (xs.map (encX true 3)))),(16,vi (((xs.map (encX true 3)).length:Int))),(19,vi (w64 (((xs.map (encX true 3)).length:Int) - 1)))],by kernel_rfl,by rfl⟩)
  (fun yv xs i=>⟨[],[(1,.f (.pv yv)),(4,.fp (.sl (xs.map (encX true 3))) 0),(10,vi i),(22,vi i),(25,vB (decide (i≥0)))],by kernel_rfl,by rfl,by rfl⟩)
  (fun yv xs i=>⟨[],[(1,.f (.pv yv)),(4,.fp (.sl (xs.map (encX true 3))) 0),(10,vi (w64 (i - 1))),(28,vi i),(31,vi (w64 (i - 1)))],by kernel_rfl,by rfl⟩)
  (fun yv xs i x=>⟨[],[(1,.f (.pv yv)),(4,.fp (.sl (xs.map (encX true 3))) 0),(10,vi i),(34,.f (.pv yv)),(37,vi i),(40,.f (.sl (xs.map (encX true 3)))),(43,vi i),(46,.fp (encX true 3 x) 0),(49,asAV (encX true 3 x))],by kernel_rfl,by rfl,by rfl,by rfl,by rfl⟩) (fun b=>⟨[],[(52,vB b),(55,vB (!b))],by kernel_rfl,by rfl⟩) (by simp)
theorem zfL (l:List zu):CallE Tryz.prog 167 [vL zt l] [] (.clo 183 [.fp (.sl (List.map zt l)) 0]) []:=by
 refine zd1 (x:=bodyOf Tryz.f167) (cfOk [] 4) Tryz.func167 (by rfl) (by rfl) (by rfl) (Nat.le_of_ble_eq_true rfl) (by rfl) (by rfl) (Nat.le_of_ble_eq_true rfl) ?_
 refine wkS [1] [(1,vL zt l)] (by kernel_rfl) ?_
 refine sR (cfOk [] 4) [] [4,8] [(4,.ptr 8 0),(8,vL zt l)] (obs:=[]) (by kernel_rfl) (by kernel_rfl) obN ?_
 refine sR (cfOk [] 4) [] [7,8] [(7,.clo 183 [.ptr 8 0]),(8,vL zt l)] (obs:=[]) (by kernel_rfl) (by kernel_rfl) obN ?_
 refine Sem.ret' (by kernel_rfl) Wk.refl ?_
 refine ⟨_,Wk.fpz (b:=8) (x:=.sl (List.map zt l)) (by rfl) (by rfl) (by rfl),?_⟩
 exact (zcI (x:=.clo 183 [.fp (.sl (List.map zt l)) 0]) (l:=[]) (by kernel_rfl) ⟨rfl,rfl⟩).1
def zak (a0:List zu):Prop:=CallE Tryz.prog 167 [vL zt a0] [] (.clo 183 [.fp (.sl (List.map zt a0)) 0]) []
theorem back_ok_160:BackOk Tryz.prog 160 zc:=
 back_of (c:=cf [] 19) (cfOk [] 19) Tryz.func160 (by rfl) (by rfl) (by rfl) (by rfl) (agg:=true) (sz:=8) (fun x=>by simp [FV.fits,FV.size,FV.cells,FV.one,zL]) (fun x=>by rw [zL];rfl) (fun h=>by cases h) (by rfl)
  (by rfl) (by rfl) (by rfl) (by rfl) (pre:=(opsOf (sq1 (sq1 (sq1 (sq2 (sq1 (sq1 (sq2 (bodyOf Tryz.f160))))))))).take 6) (by rfl) (by rfl) (by rfl) (by rfl)
  (fun yv xs=>⟨[],[(1,.f (.pv yv)),(4,.fp (.sl (xs.map (encX true 8))) 0),(10,vi (w64 (((xs.map (encX true 8)).length:Int) - 1))),(13,.f (.sl (xs.map (encX true 8)))),(16,vi (((xs.map (encX true 8)).length:Int))),(19,vi (w64 (((xs.map (encX true 8)).length:Int) - 1)))],by kernel_rfl,by rfl⟩)
  (fun yv xs i=>⟨[],[(1,.f (.pv yv)),(4,.fp (.sl (xs.map (encX true 8))) 0),(10,vi i),(22,vi i),(25,vB (decide (i≥0)))],by kernel_rfl,by rfl,by rfl⟩)
  (fun yv xs i=>⟨[],[(1,.f (.pv yv)),(4,.fp (.sl (xs.map (encX true 8))) 0),(10,vi (w64 (i - 1))),(28,vi i),(31,vi (w64 (i - 1)))],by kernel_rfl,by rfl⟩)
  (fun yv xs i x=>⟨[],[(1,.f (.pv yv)),(4,.fp (.sl (xs.map (encX true 8))) 0),(10,vi i),(34,.f (.pv yv)),(37,vi i),(40,.f (.sl (xs.map (encX true 8)))),(43,vi i),(46,.fp (encX true 8 x) 0),(49,asAV (encX true 8 x))],by kernel_rfl,by rfl,by rfl,by rfl,by rfl⟩) (fun b=>⟨[],[(52,vB b),(55,vB (!b))],by kernel_rfl,by rfl⟩) (by simp)
theorem backward_rx (l:List zf):CallE Tryz.prog 144 [vL zc l] [] (.clo 160 [.fp (.sl (List.map zc l)) 0]) []:=by
 refine zd1 (x:=bodyOf Tryz.f144) (cfOk [] 4) Tryz.func144 (by rfl) (by rfl) (by rfl) (Nat.le_of_ble_eq_true rfl) (by rfl) (by rfl) (Nat.le_of_ble_eq_true rfl) ?_
 refine wkS [1] [(1,vL zc l)] (by kernel_rfl) ?_
 refine sR (cfOk [] 4) [] [4,8] [(4,.ptr 8 0),(8,vL zc l)] (obs:=[]) (by kernel_rfl) (by kernel_rfl) obN ?_
 refine sR (cfOk [] 4) [] [7,8] [(7,.clo 160 [.ptr 8 0]),(8,vL zc l)] (obs:=[]) (by kernel_rfl) (by kernel_rfl) obN ?_
 refine Sem.ret' (by kernel_rfl) Wk.refl ?_
 refine ⟨_,Wk.fpz (b:=8) (x:=.sl (List.map zc l)) (by rfl) (by rfl) (by rfl),?_⟩
 exact (zcI (x:=.clo 160 [.fp (.sl (List.map zc l)) 0]) (l:=[]) (by kernel_rfl) ⟨rfl,rfl⟩).1
def zcB (a0:List zf):Prop:=CallE Tryz.prog 144 [vL zc a0] [] (.clo 160 [.fp (.sl (List.map zc a0)) 0]) []
theorem back_ok_145:BackOk Tryz.prog 145 zF:=
 back_of (c:=cf [] 19) (cfOk [] 19) Tryz.func145 (by rfl) (by rfl) (by rfl) (by rfl) (agg:=false) (sz:=1) (fun x=>by rfl) (fun x=>rfl) (fun _=>rfl) (by rfl)
  (by rfl) (by rfl) (by rfl) (by rfl) (pre:=(opsOf (sq1 (sq1 (sq1 (sq2 (sq1 (sq1 (sq2 (bodyOf Tryz.f145))))))))).take 6) (by rfl) (by rfl) (by rfl) (by rfl)
  (fun yv xs=>⟨[],[(1,.f (.pv yv)),(4,.fp (.sl (xs.map (encX false 1))) 0),(10,vi (w64 (((xs.map (encX false 1)).length:Int) - 1))),(13,.f (.sl (xs.map (encX false 1)))),(16,vi (((xs.map (encX false 1)).length:Int))),(19,vi (w64 (((xs.map (encX false 1)).length:Int) - 1)))],by kernel_rfl,by rfl⟩)
  (fun yv xs i=>⟨[],[(1,.f (.pv yv)),(4,.fp (.sl (xs.map (encX false 1))) 0),(10,vi i),(22,vi i),(25,vB (decide (i≥0)))],by kernel_rfl,by rfl,by rfl⟩)
  (fun yv xs i=>⟨[],[(1,.f (.pv yv)),(4,.fp (.sl (xs.map (encX false 1))) 0),(10,vi (w64 (i - 1))),(28,vi i),(31,vi (w64 (i - 1)))],by kernel_rfl,by rfl⟩)
  (fun yv xs i x=>⟨[],[(1,.f (.pv yv)),(4,.fp (.sl (xs.map (encX false 1))) 0),(10,vi i),(34,.f (.pv yv)),(37,vi i),(40,.f (.sl (xs.map (encX false 1)))),(43,vi i),(46,.fp (encX false 1 x) 0),(49,asAV (encX false 1 x))],by kernel_rfl,by rfl,by rfl,by rfl,by rfl⟩) (fun b=>⟨[],[(52,vB b),(55,vB (!b))],by kernel_rfl,by rfl⟩) (by simp)
theorem backward_byte (l:List Int):CallE Tryz.prog 126 [vL zF l] [] (.clo 145 [.fp (.sl (List.map zF l)) 0]) []:=by
 refine zd1 (x:=bodyOf Tryz.f126) (cfOk [] 4) Tryz.func126 (by rfl) (by rfl) (by rfl) (Nat.le_of_ble_eq_true rfl) (by rfl) (by rfl) (Nat.le_of_ble_eq_true rfl) ?_
 refine wkS [1] [(1,vL zF l)] (by kernel_rfl) ?_
 refine sR (cfOk [] 4) [] [4,8] [(4,.ptr 8 0),(8,vL zF l)] (obs:=[]) (by kernel_rfl) (by kernel_rfl) obN ?_
 refine sR (cfOk [] 4) [] [7,8] [(7,.clo 145 [.ptr 8 0]),(8,vL zF l)] (obs:=[]) (by kernel_rfl) (by kernel_rfl) obN ?_
 refine Sem.ret' (by kernel_rfl) Wk.refl ?_
 refine ⟨_,Wk.fpz (b:=8) (x:=.sl (List.map zF l)) (by rfl) (by rfl) (by rfl),?_⟩
 exact (zcI (x:=.clo 145 [.fp (.sl (List.map zF l)) 0]) (l:=[]) (by kernel_rfl) ⟨rfl,rfl⟩).1
def zdj (a0:List Int):Prop:=CallE Tryz.prog 126 [vL zF a0] [] (.clo 145 [.fp (.sl (List.map zF a0)) 0]) []
end Go.Ev
namespace Go.Ev
open Go Go.Proofs
set_option maxRecDepth 8000
abbrev axs (s:zh):AV:=.agg [vL zn (zr.Conds (zd.Spec (zh.Program s))),vB (zr.Default (zd.Spec (zh.Program s))),vL zg (zr.Rules (zd.Spec (zh.Program s))),vL za (zk.Map (zd.Tables (zh.Program s))),vi (zk.Width (zd.Tables (zh.Program s))),vL za (zk.Base (zd.Tables (zh.Program s))),vL za (zk.Default (zd.Tables (zh.Program s))),vL za (zk.Next (zd.Tables (zh.Program s))),vL za (zk.Check (zd.Tables (zh.Program s))),vL za (zk.Accept (zd.Tables (zh.Program s))),vL za (zk.Start (zd.Tables (zh.Program s))),vS (zh.W s),vi (zh.At s),vi (zh.Cond s),oL 49 zp (zi.Tokens (zh.Out s)),vi (zi.Jam (zh.Out s))]
def zbC (r0:Bool):Prop:=CallE Tryz.prog 11 [] [] (vB r0) []
def zq (a1:Int) (o0:ze) (r0:Int) (o0':ze):Prop:=CallE Tryz.prog 25 [.ptr 3 0,vi a1] [zl o0] (vi r0) [zl o0']
def zbW (a0:zb) (a1:Int) (r0:zb):Prop:=CallE Tryz.prog 78 [zQ a0,vi a1] [] (zQ r0) []
def zau (a0:Int) (a1:Int) (r0:zb):Prop:=CallE Tryz.prog 49 [vi a0,vi a1] [] (zQ r0) []
def zbr (a0:zb) (a1:Int) (r0:Bool):Prop:=CallE Tryz.prog 99 [zQ a0,vi a1] [] (vB r0) []
def zcM (a0:zb) (r0:zb):Prop:=CallE Tryz.prog 129 [zQ a0] [] (zQ r0) []
def zbf (a0:Int) (r0:zf):Prop:=CallE Tryz.prog 130 [vi a0] [] (zbp r0) []
def zbs (o0:ze) (r0:zf) (o0':ze):Prop:=CallE Tryz.prog 104 [.ptr 3 0] [zl o0] (zbp r0) [zl o0']
def zam (a0:Int) (a1:(List zf)) (r0:zf):Prop:=CallE Tryz.prog 105 [vi a0,vL zc a1] [] (zbp r0) []
def zX (a1:Int) (o0:ze) (r0:zf) (o0':ze):Prop:=CallE Tryz.prog 76 [.ptr 3 0,vi a1] [zl o0] (zbp r0) [zl o0']
def zaO (a0:zf) (r0:Int):Prop:=CallE Tryz.prog 77 [zD a0] [] (vi r0) []
def zaZ (o0:ze) (r0:zf) (o0':ze):Prop:=CallE Tryz.prog 48 [.ptr 3 0] [zl o0] (zD r0) [zl o0']
def zbI (a1:Int) (a2:Bool) (o0:ze) (r0:zw) (o0':ze):Prop:=CallE Tryz.prog 26 [.ptr 3 0,vi a1,vB a2] [zl o0] (.agg [oL 3 za (zw.Conds r0),vB (zw.All r0),vB (zw.Bol r0),vi (zf.Kind (zw.Rx r0)),vI .u64 (zb.e0 (zf.Set (zw.Rx r0))),vI .u64 (zb.e1 (zf.Set (zw.Rx r0))),vI .u64 (zb.e2 (zf.Set (zw.Rx r0))),vI .u64 (zb.e3 (zf.Set (zw.Rx r0))),vi (zf.Lo (zw.Rx r0)),vi (zf.Hi (zw.Rx r0)),vL zc (zf.Kids (zw.Rx r0)),vi (zf.Kind (zw.Trail r0)),vI .u64 (zb.e0 (zf.Set (zw.Trail r0))),vI .u64 (zb.e1 (zf.Set (zw.Trail r0))),vI .u64 (zb.e2 (zf.Set (zw.Trail r0))),vI .u64 (zb.e3 (zf.Set (zw.Trail r0))),vi (zf.Lo (zw.Trail r0)),vi (zf.Hi (zw.Trail r0)),vL zc (zf.Kids (zw.Trail r0)),vB (zw.Eof r0),vi (zw.Act r0),vi (zw.To r0)]) [zl o0']
def zbJ (a0:(List Int)) (a1:Bool) (r0:zr):Prop:=CallE Tryz.prog 10 [vL zF a0,vB a1] [] (.agg [vL zn (zr.Conds r0),vB (zr.Default r0),oL 57 zg (zr.Rules r0)]) []
def zdC (a0:zr) (r0:zbT) (r1:Int):Prop:=CallE Tryz.prog 45 [zag a0] [] (.tup [zcJ r0,vi r1]) []
def zcy (a0:(List zb)) (a1:Int) (a2:Int) (r0:Bool):Prop:=CallE Tryz.prog 97 [vL zm a0,vi a1,vi a2] [] (vB r0) []
def zce (a0:(List zb)) (r0:(List Int)) (r1:Int):Prop:=CallE Tryz.prog 68 [vL zm a0] [] (.tup [vL za r0,vi r1]) []
def zcf (a0:(List Int)) (a1:Int) (r0:(List Int)):Prop:=CallE Tryz.prog 69 [vL za a0,vi a1] [] (oL 3 za r0) []
def zdM (a0:zbT) (r0:zZ) (r1:Int):Prop:=CallE Tryz.prog 46 [zcJ a0] [] (.tup [zar r0,vi r1]) []
def zaB (a0:(List Int)) (a1:Int) (a2:Int) (r0:Bool):Prop:=CallE Tryz.prog 100 [vL za a0,vi a1,vi a2] [] (vB r0) []
def zav (a0:(List Int)) (r0:Int):Prop:=CallE Tryz.prog 24 [vL za a0] [] (vi r0) []
def zcd (a0:zZ) (r0:Bool):Prop:=CallE Tryz.prog 72 [zar a0] [] (vB r0) []
def zcx (a0:(List Int)) (r0:(List Int)):Prop:=CallE Tryz.prog 102 [vL za a0] [] (oL 3 za r0) []
def zcc (a0:(List Int)) (a1:Int) (r0:Int):Prop:=CallE Tryz.prog 103 [vL za a0,vi a1] [] (vi r0) []
def zbY (a0:zZ) (r0:(List Int)):Prop:=CallE Tryz.prog 73 [zar a0] [] (vL za r0) []
def zaD (a1:Int) (o0:zx) (r0:Int) (o0':zx):Prop:=CallE Tryz.prog 74 [.ptr 3 0,vi a1] [.agg [vL za (zx.G o0),oL 3 za (zx.L o0),oL 3 za (zx.State o0)]] (vi r0) [.agg [vL za (zx.G o0'),oL 3 za (zx.L o0'),oL 3 za (zx.State o0')]]
def zbZ (a0:(List (List Int))) (a1:Int) (a2:Int) (r0:Bool):Prop:=CallE Tryz.prog 75 [vL zj a0,vi a1,vi a2] [] (vB r0) []
def zbB (a0:zZ) (r0:zZ) (r1:Int):Prop:=CallE Tryz.prog 47 [zar a0] [] (.tup [zar r0,vi r1]) []
def zbn (a0:zr) (r0:zZ) (r1:Int):Prop:=CallE Tryz.prog 23 [zag a0] [] (.tup [zar r0,vi r1]) []
def zbd (a0:zr) (r0:zd) (r1:Bool):Prop:=CallE Tryz.prog 9 [zag a0] [] (.tup [zE r0,vB r1]) []
def zcz (r0:zd):Prop:=CallE Tryz.prog 27 [] [] (zE r0) []
def zdB (a0:ByteArray) (r0:Bool):Prop:=CallE Tryz.prog 108 [vS a0] [] (vB r0) []
def zdA (a0:zw) (o0:Int) (r0:Bool) (o0':Int):Prop:=CallE Tryz.prog 109 [zbg a0,.ptr 3 0] [vi o0] (vB r0) [vi o0']
def zal (a0:(List zw)) (o0:Int) (r0:Int) (o0':Int):Prop:=CallE Tryz.prog 134 [vL zg a0,.clo 109 [.ptr 3 0]] [vi o0] (vi r0) [vi o0']
def zU (a0:(List zw)) (o0:Int) (r0:Bool) (o0':Int):Prop:=CallE Tryz.prog 113 [vL zg a0,.clo 109 [.ptr 3 0]] [vi o0] (vB r0) [vi o0']
def zcj (a0:zr) (r0:Bool):Prop:=CallE Tryz.prog 81 [zag a0] [] (vB r0) []
def ze9 (a0:zk) (r0:Bool):Prop:=CallE Tryz.prog 114 [zaI a0] [] (vB r0) []
def zc8 (a0:Int) (o0:Int) (o1:Int) (r0:Bool) (o0':Int) (o1':Int):Prop:=CallE Tryz.prog 135 [vi a0,.ptr 3 0,.ptr 6 0] [vi o0,vi o1] (vB r0) [vi o0',vi o1']
def zad (a0:(List Int)) (o0:Int) (o1:Int) (r0:Int) (o0':Int) (o1':Int):Prop:=CallE Tryz.prog 116 [vL za a0,.clo 135 [.ptr 3 0,.ptr 6 0]] [vi o0,vi o1] (vi r0) [vi o0',vi o1']
def zat (a0:(List Int)) (o0:Int) (o1:Int) (r0:Bool) (o0':Int) (o1':Int):Prop:=CallE Tryz.prog 84 [vL za a0,.clo 135 [.ptr 3 0,.ptr 6 0]] [vi o0,vi o1] (vB r0) [vi o0',vi o1']
def zbc (a0:(List Int)) (a1:Int) (a2:Int) (r0:Bool):Prop:=CallE Tryz.prog 115 [vL za a0,vi a1,vi a2] [] (vB r0) []
def zfa (a0:zk) (r0:Bool):Prop:=CallE Tryz.prog 82 [zaI a0] [] (vB r0) []
def zdN (a0:Int) (o0:zd) (r0:Bool) (o0':zd):Prop:=CallE Tryz.prog 83 [vi a0,.ptr 3 0] [zE o0] (vB r0) [zE o0']
def zaa (a0:(List Int)) (o0:zd) (r0:Int) (o0':zd):Prop:=CallE Tryz.prog 116 [vL za a0,.clo 83 [.ptr 3 0]] [zE o0] (vi r0) [zE o0']
def z6 (a0:(List Int)) (o0:zd) (r0:Bool) (o0':zd):Prop:=CallE Tryz.prog 84 [vL za a0,.clo 83 [.ptr 3 0]] [zE o0] (vB r0) [zE o0']
def zdD (a0:zd) (r0:Bool):Prop:=CallE Tryz.prog 53 [zE a0] [] (vB r0) []
def zc1 (a0:zd) (a1:ByteArray) (r0:Bool):Prop:=CallE Tryz.prog 32 [zE a0,vS a1] [] (vB r0) []
def zca (o0:zh) (r0:Bool) (o0':zh):Prop:=CallE Tryz.prog 34 [.ptr 3 0] [axs o0] (vB r0) [axs o0']
def zgg (a0:ByteArray) (a1:Int) (r0:Bool):Prop:=CallE Tryz.prog 90 [vS a0,vi a1] [] (vB r0) []
def zbX (o0:zh) (r0:Int) (o0':zh):Prop:=CallE Tryz.prog 56 [.ptr 3 0] [axs o0] (vi r0) [axs o0']
def zge (a0:zk) (a1:Int) (a2:Int) (r0:Int):Prop:=CallE Tryz.prog 91 [zaI a0,vi a1,vi a2] [] (vi r0) []
def zb9 (a1:Int) (a2:Int) (o0:zh) (r0:Int) (r1:Int) (o0':zh):Prop:=CallE Tryz.prog 57 [.ptr 3 0,vi a1,vi a2] [axs o0] (.tup [vi r0,vi r1]) [axs o0']
def zb8 (o0:zh) (r0:Int) (r1:Int) (o0':zh):Prop:=CallE Tryz.prog 36 [.ptr 3 0] [axs o0] (.tup [vi r0,vi r1]) [axs o0']
def zbb (a1:zC) (o0:zh) (o0':zh):Prop:=CallE Tryz.prog 54 [.ptr 3 0,zc0 a1] [axs o0] (.tup []) [axs o0']
def zcw (a0:zO) (r0:Bool):Prop:=CallE Tryz.prog 152 [zS a0] [] (vB r0) []
def zc7 (a0:zO) (r0:Bool):Prop:=CallE Tryz.prog 137 [zS a0] [] (vB r0) []
def zbQ (a0:zf) (o0:zO) (o1:Int) (r0:Bool) (o0':zO) (o1':Int):Prop:=CallE Tryz.prog 136 [zD a0,.ptr 3 0,.ptr 6 0] [zS o0,vi o1] (vB r0) [zS o0',vi o1']
def zV (a0:(List zf)) (o0:zO) (o1:Int) (r0:Int) (o0':zO) (o1':Int):Prop:=CallE Tryz.prog 153 [vL zc a0,.clo 136 [.ptr 3 0,.ptr 6 0]] [zS o0,vi o1] (vi r0) [zS o0',vi o1']
def zR (a0:(List zf)) (o0:zO) (o1:Int) (r0:Bool) (o0':zO) (o1':Int):Prop:=CallE Tryz.prog 138 [vL zc a0,.clo 136 [.ptr 3 0,.ptr 6 0]] [zS o0,vi o1] (vB r0) [zS o0',vi o1']
def zaN (a0:zO) (a1:Int) (r0:Bool):Prop:=CallE Tryz.prog 117 [zS a0,vi a1] [] (vB r0) []
def ze8 (a0:zf) (r0:Int):Prop:=CallE Tryz.prog 118 [zD a0] [] (vi r0) []
def zfn (a0:zf) (a1:Int) (r0:Int):Prop:=CallE Tryz.prog 119 [zD a0,vi a1] [] (vi r0) []
def zcL (a0:zf) (r0:Bool):Prop:=CallE Tryz.prog 86 [zD a0] [] (vB r0) []
def zc2 (a1:zb) (o0:zy) (r0:zu) (o0':zy):Prop:=CallE Tryz.prog 154 [.ptr 3 0,zQ a1] [zA o0] (zK r0) [zA o0']
def zax (a0:(List (List Int))) (r0:(List Int)):Prop:=CallE Tryz.prog 141 [vL zj a0] [] (oL 3 za r0) []
def zaq (a0:(List Int)) (a1:(List Int)) (r0:(List Int)):Prop:=CallE Tryz.prog 124 [vL za a0,vL za a1] [] (vL za r0) []
def zbm (a1:(List Int)) (a2:(List Int)) (o0:zy) (o0':zy):Prop:=CallE Tryz.prog 165 [.ptr 3 0,vL za a1,vL za a2] [zA o0] (.tup []) [zA o0']
def zaY (a1:zu) (a2:zu) (o0:zy) (r0:zu) (o0':zy):Prop:=CallE Tryz.prog 155 [.ptr 3 0,zK a1,zK a2] [zA o0] (zK r0) [zA o0']
def zaF (a1:zf) (a2:Int) (o0:zy) (r0:(List zu)) (o0':zy):Prop:=CallE Tryz.prog 166 [.ptr 3 0,zD a1,vi a2] [zA o0] (oL 195 zt r0) [zA o0']
def zev (a0:zu) (r0:zu):Prop:=CallE Tryz.prog 168 [zK a0] [] (zK r0) []
def zcb (a1:zf) (o0:zy) (r0:zu) (o0':zy):Prop:=CallE Tryz.prog 156 [.ptr 3 0,zD a1] [zA o0] (zK r0) [zA o0']
def zay (a1:zf) (o0:zy) (r0:zu) (o0':zy):Prop:=CallE Tryz.prog 139 [.ptr 3 0,zD a1] [zA o0] (zK r0) [zA o0']
def zhB (a0:zf) (r0:zao) (r1:Int):Prop:=CallE Tryz.prog 120 [zD a0] [] (.tup [zbx r0,vi r1]) []
def zbz (a0:(List Int)) (a1:Int) (r0:Int):Prop:=CallE Tryz.prog 140 [vL za a0,vi a1] [] (vi r0) []
def zaC (a0:(List Int)) (a1:Int) (r0:Bool):Prop:=CallE Tryz.prog 123 [vL za a0,vi a1] [] (vB r0) []
def zc5 (a0:Int) (o0:zao) (o1:ByteArray) (o2:Int) (r0:Bool) (o0':zao) (o1':ByteArray) (o2':Int):Prop:=CallE Tryz.prog 121 [vi a0,.ptr 3 0,.ptr 6 0,.ptr 9 0] [zbx o0,vS o1,vi o2] (vB r0) [zbx o0',vS o1',vi o2']
def zdh (a0:zf) (a1:ByteArray) (r0:(List Bool)):Prop:=CallE Tryz.prog 87 [zD a0,vS a1] [] (oL 4 zY r0) []
def zeu (a0:zf) (a1:ByteArray) (r0:(List Bool)):Prop:=CallE Tryz.prog 85 [zD a0,vS a1] [] (oL 4 zY r0) []
def zba (a0:(List zf)) (r0:(List zf)):Prop:=CallE Tryz.prog 125 [vL zc a0] [] (vL zc r0) []
def zcs (a0:zf) (r0:zf):Prop:=CallE Tryz.prog 88 [zD a0] [] (zD r0) []
def zb6 (a0:(List Int)) (r0:(List Int)):Prop:=CallE Tryz.prog 89 [vL zF a0] [] (vL zF r0) []
def zct (a0:zw) (a1:ByteArray) (r0:Int):Prop:=CallE Tryz.prog 55 [zbg a0,vS a1] [] (vi r0) []
def zcu (a1:Int) (a2:Int) (o0:zh) (r0:Bool) (o0':zh):Prop:=CallE Tryz.prog 35 [.ptr 3 0,vi a1,vi a2] [axs o0] (vB r0) [axs o0']
def zdi (a0:zr) (a1:Int) (a2:Int) (r0:Bool):Prop:=CallE Tryz.prog 92 [zag a0,vi a1,vi a2] [] (vB r0) []
def zgf (a0:zr) (a1:Int) (r0:Int):Prop:=CallE Tryz.prog 58 [zag a0,vi a1] [] (vi r0) []
def zcv (o0:zh) (o0':zh):Prop:=CallE Tryz.prog 37 [.ptr 3 0] [axs o0] (.tup []) [axs o0']
def zbA (a0:zd) (a1:ByteArray) (r0:zi) (r1:Int):Prop:=CallE Tryz.prog 16 [zE a0,vS a1] [] (.tup [zaU r0,vi r1]) []
def zcA (a0:(List Int)) (r0:ByteArray):Prop:=CallE Tryz.prog 13 [vL zF a0] [] (vS r0) []
def zcO (a0:(List Int)) (a1:Int) (a2:(List Int)) (r0:zZ):Prop:=CallE Tryz.prog 28 [vL zF a0,vI .u8 a1,vL zF a2] [] (zhs r0) []
def zbe (a0:zZ) (r0:zk):Prop:=CallE Tryz.prog 29 [zar a0] [] (.agg [vL za (zk.Map r0),vi (zk.Width r0),oL 3 za (zk.Base r0),oL 3 za (zk.Default r0),oL 3 za (zk.Next r0),oL 3 za (zk.Check r0),vL za (zk.Accept r0),vL za (zk.Start r0)]) []
def zcN (a0:(List Int)) (a1:(List Int)) (a2:Int) (a3:(List Int)) (r0:zd):Prop:=CallE Tryz.prog 14 [vL zF a0,vL zF a1,vI .u8 a2,vL zF a3] [] (zE r0) []
def zbD (a0:(List Int)) (a1:(List Int)) (a2:Int) (a3:(List Int)) (a4:(List Int)) (r0:Bool):Prop:=CallE Tryz.prog 5 [vL zF a0,vL zF a1,vI .u8 a2,vL zF a3,vL zF a4] [] (vB r0) []
def zg8 (a0:zb) (a1:Int) (r0:Bool):Prop:=CallE Tryz.prog 122 [zQ a0,vi a1] [] (vB r0) []
def zcK (a0:zaR) (a1:Int) (r0:Bool):Prop:=CallE Tryz.prog 110 [zaW a0,vi a1] [] (vB r0) []
def zc6 (a0:zaR) (a1:Int) (r0:Bool):Prop:=CallE Tryz.prog 111 [zaW a0,vi a1] [] (vB r0) []
def zb7 (a0:zaR) (r0:Bool):Prop:=CallE Tryz.prog 112 [zaW a0] [] (vB r0) []
def zby (a0:zf) (r0:Bool):Prop:=CallE Tryz.prog 133 [zD a0] [] (vB r0) []
end Go.Ev
namespace Go.Ev
open Go Go.RowKit
variable {P : Program}
section
variable {c : Cfg} {G : Sta} {K : Ex → Sta → Prop} {x : Code}
end
end Go.Ev
namespace Go.Ev
open Go
theorem eft (b:Bool):b=true∨b=false:=Bool.eq_false_or_eq_true b
end Go.Ev
namespace Go.Ev
open Go Go.RowKit
variable {P : Program}
abbrev u2 {α0 α1 γ:Type _} (f:α0→α1→γ) (q:α0×α1):γ:=f q.1 q.2
abbrev u3 {α0 α1 α2 γ:Type _} (f:α0→α1→α2→γ) (q:α0×α1×α2):γ:=f q.1 q.2.1 q.2.2
abbrev u4 {α0 α1 α2 α3 γ:Type _} (f:α0→α1→α2→α3→γ) (q:α0×α1×α2×α3):γ:=f q.1 q.2.1 q.2.2.1 q.2.2.2
abbrev u5 {α0 α1 α2 α3 α4 γ:Type _} (f:α0→α1→α2→α3→α4→γ) (q:α0×α1×α2×α3×α4):γ:=f q.1 q.2.1 q.2.2.1 q.2.2.2.1 q.2.2.2.2
abbrev u6 {α0 α1 α2 α3 α4 α5 γ:Type _} (f:α0→α1→α2→α3→α4→α5→γ) (q:α0×α1×α2×α3×α4×α5):γ:=f q.1 q.2.1 q.2.2.1 q.2.2.2.1 q.2.2.2.2.1 q.2.2.2.2.2
abbrev u8 {α0 α1 α2 α3 α4 α5 α6 α7 γ:Type _} (f:α0→α1→α2→α3→α4→α5→α6→α7→γ) (q:α0×α1×α2×α3×α4×α5×α6×α7):γ:=f q.1 q.2.1 q.2.2.1 q.2.2.2.1 q.2.2.2.2.1 q.2.2.2.2.2.1 q.2.2.2.2.2.2.1 q.2.2.2.2.2.2.2
abbrev u9 {α0 α1 α2 α3 α4 α5 α6 α7 α8 γ:Type _} (f:α0→α1→α2→α3→α4→α5→α6→α7→α8→γ) (q:α0×α1×α2×α3×α4×α5×α6×α7×α8):γ:=f q.1 q.2.1 q.2.2.1 q.2.2.2.1 q.2.2.2.2.1 q.2.2.2.2.2.1 q.2.2.2.2.2.2.1 q.2.2.2.2.2.2.2.1 q.2.2.2.2.2.2.2.2
abbrev u10 {α0 α1 α2 α3 α4 α5 α6 α7 α8 α9 γ:Type _} (f:α0→α1→α2→α3→α4→α5→α6→α7→α8→α9→γ) (q:α0×α1×α2×α3×α4×α5×α6×α7×α8×α9):γ:=f q.1 q.2.1 q.2.2.1 q.2.2.2.1 q.2.2.2.2.1 q.2.2.2.2.2.1 q.2.2.2.2.2.2.1 q.2.2.2.2.2.2.2.1 q.2.2.2.2.2.2.2.2.1 q.2.2.2.2.2.2.2.2.2
abbrev u11 {α0 α1 α2 α3 α4 α5 α6 α7 α8 α9 α10 γ:Type _} (f:α0→α1→α2→α3→α4→α5→α6→α7→α8→α9→α10→γ) (q:α0×α1×α2×α3×α4×α5×α6×α7×α8×α9×α10):γ:=f q.1 q.2.1 q.2.2.1 q.2.2.2.1 q.2.2.2.2.1 q.2.2.2.2.2.1 q.2.2.2.2.2.2.1 q.2.2.2.2.2.2.2.1 q.2.2.2.2.2.2.2.2.1 q.2.2.2.2.2.2.2.2.2.1 q.2.2.2.2.2.2.2.2.2.2
abbrev u12 {α0 α1 α2 α3 α4 α5 α6 α7 α8 α9 α10 α11 γ:Type _} (f:α0→α1→α2→α3→α4→α5→α6→α7→α8→α9→α10→α11→γ) (q:α0×α1×α2×α3×α4×α5×α6×α7×α8×α9×α10×α11):γ:=f q.1 q.2.1 q.2.2.1 q.2.2.2.1 q.2.2.2.2.1 q.2.2.2.2.2.1 q.2.2.2.2.2.2.1 q.2.2.2.2.2.2.2.1 q.2.2.2.2.2.2.2.2.1 q.2.2.2.2.2.2.2.2.2.1 q.2.2.2.2.2.2.2.2.2.2.1 q.2.2.2.2.2.2.2.2.2.2.2
abbrev ck (b:Bool) (A B:Prop):Prop:=(b=true→A)∧(b=false→B)
structure Ob where
 q:List Ora
 obs:List Prop
 pf:AllP obs
abbrev oN:Ob:=⟨[],[],trivial⟩
abbrev nd {p:Prop} (h:p) (o:Ob):Ob:=⟨o.q,p :: o.obs,obC h o.pf⟩
abbrev op (x:Ora) {p:Prop} (h:p) (o:Ob):Ob:=⟨x :: o.q,p :: o.obs,obC h o.pf⟩
abbrev el {l:List FV} {n:Nat} {x:FV} (h:l[n]?=some x) (o:Ob):Ob:=op (.e x) h o
abbrev ca {g:FuncId} {args outs outs':List AV} {r:AV} (h:CallE P g args outs r outs') (o:Ob):Ob:=op (.c r outs') h o
def gst {b v b' v':Bool} (h:b=v) (h':b'=v') (o:Ob):Nat→Ob
 | 1=>op (.b v) (show (b == true)=v by rw [h];cases v<;>rfl) o
 | 2=>op (.b (!v)) (show (b == false)=!v by rw [h];cases v<;>rfl) o
 | 3=>op (.b v) h o
 | 4=>op (.b v') (show (b' == true)=v' by rw [h'];cases v'<;>rfl) o
 | 5=>op (.b (!v')) (show (b' == false)=!v' by rw [h'];cases v'<;>rfl) o
 | 6=>op (.b v') h' o
 | 7=>op (.b true) (rfl:true=true) o
 | _=>op (.b false) (rfl:false=false) o
def gdg {b v b' v':Bool} (h:b=v) (h':b'=v'):Nat→Nat→Ob→Ob
 | 0,_,o=>o
 | f+1,n,o=>match Nat.beq n 0 with
   | true=>o
   | false=>gdg h h' f (n / 10) (gst h h' o (n % 10))
abbrev g2 {b v b' v':Bool} (h:b=v) (h':b'=v') (n:Nat) (o:Ob):Ob:=gdg h h' 64 n o
abbrev g1 {b v:Bool} (h:b=v) (n:Nat) (o:Ob):Ob:=gdg h h 64 n o
abbrev g0 (n:Nat) (o:Ob):Ob:=gdg (Eq.refl true) (Eq.refl true) 64 n o
abbrev xo {α:Type} [Inhabited α] (f:α→FV) {l:List α} {i:Int} {y:FV} (hy:f (l.getD i.toNat default)=y) (h0:0≤i) (h:i < l.length) (o:Ob):Ob:=nd h0 (el (zbu f l i y hy h0 h) o)
abbrev apo {α:Type} (f:α→FV) (l:List α) {k s:Nat} (h:(l.length+k) * s≤2 ^ 47) (o:Ob):Ob:=
 nd (show 0=0∧(List.map f l).length=(List.map f l).length from ⟨rfl,rfl⟩) (nd (show ((List.map f l).length+k) * s≤2 ^ 47 by rw [List.length_map];exact h) (nd (rfl:true=true) o))
section
variable {c : Cfg} {G G' : Sta} {K : Ex → Sta → Prop} {x : Code}
theorem sO (o:Ob) (dr:List Nat) (ch:Sta) (hk:Sem P c (sq2 x) (edt dr ch G) K) (hc:COk P c:=by assumption) (e:x=.seq (sq1 x) (sq2 x):=by kernel_rfl)
 (h:evReg P c (sq1 x) o.q [] (keysOf (edt dr ch G)) G=some (o.obs,edt dr ch G):=by kernel_rfl):Sem P c x G K:=Sem.seqR hc e h o.pf hk
theorem rO (o:Ob) (dr:List Nat) (ch:Sta) (hk:K .normal (edt dr ch G)) (hc:COk P c:=by assumption)
 (h:evReg P c x o.q [] (keysOf (edt dr ch G)) G=some (o.obs,edt dr ch G):=by kernel_rfl):Sem P c x G K:=Sem.region hc h o.pf hk
theorem cH (t:Nat) {b:Bool} {A B:Prop} (h:(b=true→A)∧(b=false→B)) (h1:b=true→A→Sem P c (sq1 x) G K) (h2:b=false→B→Sem P c (sq2 x) G K) (e:x=.cond (.tmp t) (sq1 x) (sq2 x):=by kernel_rfl)
 (hg:get G (tb t)=some (.f (.pv (.bool b))):=by kernel_rfl):Sem P c x G K:=Sem.cond' e hg (fun q=>h1 q (h.1 q)) fun q=>h2 q (h.2 q)
theorem endQ {nt:Nat} {rs:List ResultVar} {n:Nat} (fz:List (Nat×Nat)) {r:AV} {l:List AV} (h:evEnd P c rs n (Ev.frzs fz G)=some (r,l):=by kernel_rfl) :
 (∃ G',Wk P nt G G'∧endK (CallE P) c rs n (fun r' o'=>r'=r∧o'=l) .ret G')∧(∃ G',Wk P nt G G'∧endK (CallE P) c rs n (fun r' o'=>r'=r∧o'=l) .normal G'):=
 ⟨⟨_,Wk.frzs,(zcI h ⟨rfl,rfl⟩).1⟩,⟨_,Wk.frzs,(zcI h ⟨rfl,rfl⟩).2⟩⟩
theorem loE {σ:Type} (dr:List Nat) (ch:σ→Sta) (Inv:σ→Prop) (μ:σ→Nat) (s0:σ) (fz:List (Nat×Nat)) (hI:Inv s0)
 (step:∀ s,Inv s→Sem P c (sq1 x) (edt dr (ch s) G) (seqK K fun G'=>∃ s',Wk P c.nt G' (edt dr (ch s') G)∧Inv s'∧μ s' < μ s)) (e:x=.loop (sq1 x):=by kernel_rfl)
 (h0:Ev.tidy fz (keysOf (edt dr (ch s0) G)) G=edt dr (ch s0) G:=by kernel_rfl):Sem P c x G K:=Sem.loop' e (fun s=>edt dr (ch s) G) Inv μ s0 (Wk.eq h0) hI step
theorem sjE {σ:Type} (J:σ→Prop) (dr:List Nat) (ch:σ→Sta) (h2:∀ s,J s→Sem P c (sq2 x) (edt dr (ch s) G) K)
 (h1:Sem P c (sq1 x) G (seqK K fun G'=>∃ s,Wk P c.nt G' (edt dr (ch s) G)∧J s)) (e:x=.seq (sq1 x) (sq2 x):=by kernel_rfl):Sem P c x G K:=Sem.seqJ J (fun s=>edt dr (ch s) G) e h2 h1
end
end Go.Ev
namespace Go.Ev
open Go
section
variable {P : Program} {c : Cfg} {G : Sta} {K : Ex → Sta → Prop} {x : Code}
theorem sV {α:Type} (o:Ob) (dr:List Nat) (a b:α) (ch:α→Sta) (hk:Sem P c (sq2 x) (edt dr (ch b) G) K) (e':a=b:=by first | rfl | (simp only [nm,enq];done) | (simp only [n0];first | done | simp only [nm,enq])) (hc:COk P c:=by assumption) (e:x=.seq (sq1 x) (sq2 x):=by kernel_rfl)
 (h:evReg P c (sq1 x) o.q [] (keysOf (edt dr (ch a) G)) G=some (o.obs,edt dr (ch a) G):=by kernel_rfl):Sem P c x G K:=by subst e';exact Sem.seqR hc e h o.pf hk
theorem rV {α:Type} (o:Ob) (dr:List Nat) (a b:α) (ch:α→Sta) (hk:K .normal (edt dr (ch b) G)) (e':a=b:=by first | rfl | (simp only [nm,enq];done) | (simp only [n0];first | done | simp only [nm,enq])) (hc:COk P c:=by assumption)
 (h:evReg P c x o.q [] (keysOf (edt dr (ch a) G)) G=some (o.obs,edt dr (ch a) G):=by kernel_rfl):Sem P c x G K:=by subst e';exact Sem.region hc h o.pf hk
theorem sOE (o:Ob) (dr:List Nat) (ch ch':Sta) (hk:Sem P c (sq2 x) (edt dr ch' G) K) (e':ch=ch':=by first | rfl | (simp only [nm,enq];done) | (simp only [n0];first | done | simp only [nm,enq])) (hc:COk P c:=by assumption) (e:x=.seq (sq1 x) (sq2 x):=by kernel_rfl)
 (h:evReg P c (sq1 x) o.q [] (keysOf (edt dr ch G)) G=some (o.obs,edt dr ch G):=by kernel_rfl):Sem P c x G K:=sV o dr ch ch' (fun s=>s) hk e' hc e h
theorem rOE (o:Ob) (dr:List Nat) (ch ch':Sta) (hk:K .normal (edt dr ch' G)) (e':ch=ch':=by first | rfl | (simp only [nm,enq];done) | (simp only [n0];first | done | simp only [nm,enq])) (hc:COk P c:=by assumption)
 (h:evReg P c x o.q [] (keysOf (edt dr ch G)) G=some (o.obs,edt dr ch G):=by kernel_rfl):Sem P c x G K:=rV o dr ch ch' (fun s=>s) hk e' hc h
end
theorem fE {P:Program} {c:Cfg} {fn:Func} {g:FuncId} {args outs outs':List AV} {r:AV} (hc:COk P c) (hf:P.funcs[g]?=some fn) (S:Sta)
 (h:Sem P c (bodyOf fn) S fun e G=>∃ G',Wk P c.nt G G'∧endK (CallE P) c fn.results.toList outs.length (fun r' o'=>r'=r∧o'=outs') e G') (hw:Ev.tidy [] (keysOf S) (entryF 64 0 args outs)=S:=by kernel_rfl)
 (hnm:(fn.name == "runtime.NumGoroutine")=false:=by rfl) (hb:fn.body=some (bodyOf fn):=by rfl) (hnt:c.nt=fn.ntmps:=by rfl) (hlen:args.length≤fn.ntmps:=by exact Nat.le_of_ble_eq_true rfl) (ha:args.all argOk=true:=by rfl) (ho:outs.all (shut1 true fun _=>true)=true:=by rfl)
 (hl2:args.length+outs.length≤64:=by exact Nat.le_of_ble_eq_true rfl):CallE P g args outs r outs':=fD hc hf (wkS (keysOf S) S hw h) hnm hb hnt hlen ha ho hl2
theorem kW {P:Program} {c:Cfg} {G:Sta} {K K0:Ex→Sta→Prop} {x y:Code} (dr:List Nat) (h:Sem P c y (edt dr [] G) K0) (hk:K .normal G=Sem P c y G K0:=by rfl) (e:x=.skip:=by kernel_rfl):Sem P c x G K:=kD (by rw [hk];exact wkD dr h) e
end Go.Ev
namespace Go.Ev
open Go Go.Proofs
set_option maxRecDepth 8000
set_option maxHeartbeats 1000000
theorem zci (n:Int) (m:ze) (res:Int) (fin:ze)
 (h:(ck (decide (w64 (m.At+1) > (↑(List.length m.L):Int))) (res=0∧fin=({ L:=m.L,At:=w64 (m.At+1) })) ((0≤w64 (w64 (m.At+1) - 1))∧w64 (w64 (m.At+1) - 1) < ↑(List.length m.L)∧(n≠0)∧(res=(Int.tmod (w64 (gd m.L (w64 (w64 (m.At+1) - 1)))) n)∧fin=({ L:=m.L,At:=w64 (m.At+1) }))))):zq n m res fin:=by
 have kk:=cfOk [] 36;refine fE kk Tryz.func25 [(1,.ptr 3 0),(3,zl m),(4,vi n)] ?_;refine sO oN [] [] ?_;refine sO oN [] [(3,.agg [vL zF m.L,vi (w64 (m.At+1))])] ?_;refine qD ?_;refine sV oN [] (List.length (List.map zF m.L)) (List.length m.L) (fun q=>[(64,vB (decide (w64 (m.At+1) > (↑(q):Int))))]) ?_;refine cH 21 h (fun a h=>?_) (fun a h=>?_)
 ·refine sO oN [1,4,64] [(13,vi 0)] ?_;refine tD ?_;obtain ⟨c,b⟩:=h;subst res fin;exact (endQ []).1
 ·refine kW [64] ?_;obtain ⟨h1,h⟩:=h;obtain ⟨h2,h⟩:=h;obtain ⟨h3,h⟩:=h;refine sO (xo zF rfl h1 h2 (nd h3 oN)) [1,4] [(13,vi (Int.tmod (w64 (gd m.L (w64 (w64 (m.At+1) - 1)))) n))] ?_;refine tD ?_;obtain ⟨c,b⟩:=h;subst res fin;exact (endQ []).1
theorem zhw (s0:zb) (b:Int) (res:zb)
 (h:((w64 (Int.tdiv b 64)=0∨w64 (Int.tdiv b 64)=1∨w64 (Int.tdiv b 64)=2∨w64 (Int.tdiv b 64)=3)∧((decide (w64 (Int.tdiv b 64)=0))=true→((decide (w64 (Int.tdiv b 64)=0))=true→(0≤Int.tmod b 64))∧(res=({ e0:=IntKind.wrap IntKind.u64 (↑(BitVec.toNat (BitVec.ofInt (IntKind.bits IntKind.u64) s0.e0 ||| BitVec.ofInt (IntKind.bits IntKind.u64) (IntKind.wrap IntKind.u64 (1 * 2 ^ Min.min (Int.toNat (Int.tmod b 64)) (IntKind.bits IntKind.u64))))):Int),e1:=s0.e1,e2:=s0.e2,e3:=s0.e3 })))∧((decide (w64 (Int.tdiv b 64)=1))=true→((decide (w64 (Int.tdiv b 64)=1))=true→(0≤Int.tmod b 64))∧(res=({ e0:=s0.e0,e1:=IntKind.wrap IntKind.u64 (↑(BitVec.toNat (BitVec.ofInt (IntKind.bits IntKind.u64) s0.e1 ||| BitVec.ofInt (IntKind.bits IntKind.u64) (IntKind.wrap IntKind.u64 (1 * 2 ^ Min.min (Int.toNat (Int.tmod b 64)) (IntKind.bits IntKind.u64))))):Int),e2:=s0.e2,e3:=s0.e3 })))∧((decide (w64 (Int.tdiv b 64)=2))=true→((decide (w64 (Int.tdiv b 64)=2))=true→(0≤Int.tmod b 64))∧(res=({ e0:=s0.e0,e1:=s0.e1,e2:=IntKind.wrap IntKind.u64 (↑(BitVec.toNat (BitVec.ofInt (IntKind.bits IntKind.u64) s0.e2 ||| BitVec.ofInt (IntKind.bits IntKind.u64) (IntKind.wrap IntKind.u64 (1 * 2 ^ Min.min (Int.toNat (Int.tmod b 64)) (IntKind.bits IntKind.u64))))):Int),e3:=s0.e3 })))∧((decide (w64 (Int.tdiv b 64)=3))=true→((decide (w64 (Int.tdiv b 64)=3))=true→(0≤Int.tmod b 64))∧(res=({ e0:=s0.e0,e1:=s0.e1,e2:=s0.e2,e3:=IntKind.wrap IntKind.u64 (↑(BitVec.toNat (BitVec.ofInt (IntKind.bits IntKind.u64) s0.e3 ||| BitVec.ofInt (IntKind.bits IntKind.u64) (IntKind.wrap IntKind.u64 (1 * 2 ^ Min.min (Int.toNat (Int.tmod b 64)) (IntKind.bits IntKind.u64))))):Int) }))))):zbW s0 b res:=by
 have kk:=cfOk [16] 17;refine fE kk Tryz.func78 [(1,zQ s0),(4,vi b)] ?_;refine sO oN [1] [(7,.ptr 14 0),(13,.ptr 26 0),(14,zQ s0),(26,.agg [vI .u64 0,vI .u64 0,vI .u64 0,vI .u64 0])] ?_;obtain ⟨c,h⟩:=h;rcases c with a | a | a | a
 ·have a:=decide_eq_true a;have h:=h.1 a;obtain ⟨h1,h⟩:=h;refine sO (nd (show (64:Int)≠(0:Int) from by first | decide | rfl | trivial) (nd (show (64:Int)≠(0:Int) from by first | decide | rfl | trivial) (op (.n 0) (of_decide_eq_true a) (nd (show (64:Int)≠(0:Int) from by first | decide | rfl | trivial) (nd (h1 a) (op (.n 0) (of_decide_eq_true a) oN)))))) [4] [(14,.agg [vI .u64 (IntKind.wrap IntKind.u64 (↑(BitVec.toNat (BitVec.ofInt (IntKind.bits IntKind.u64) s0.e0 ||| BitVec.ofInt (IntKind.bits IntKind.u64) (IntKind.wrap IntKind.u64 (1 * 2 ^ Min.min (Int.toNat (Int.tmod b 64)) (IntKind.bits IntKind.u64))))):Int)),vI .u64 s0.e1,vI .u64 s0.e2,vI .u64 s0.e3])] ?_;refine sO oN [7,14] [(26,.agg [vI .u64 (IntKind.wrap IntKind.u64 (↑(BitVec.toNat (BitVec.ofInt (IntKind.bits IntKind.u64) s0.e0 ||| BitVec.ofInt (IntKind.bits IntKind.u64) (IntKind.wrap IntKind.u64 (1 * 2 ^ Min.min (Int.toNat (Int.tmod b 64)) (IntKind.bits IntKind.u64))))):Int)),vI .u64 s0.e1,vI .u64 s0.e2,vI .u64 s0.e3])] ?_;refine tD ?_;subst h;exact (endQ []).1
 ·have a:=decide_eq_true a;have h:=h.2.1 a;obtain ⟨h2,h⟩:=h;refine sO (nd (show (64:Int)≠(0:Int) from by first | decide | rfl | trivial) (nd (show (64:Int)≠(0:Int) from by first | decide | rfl | trivial) (op (.n 1) (of_decide_eq_true a) (nd (show (64:Int)≠(0:Int) from by first | decide | rfl | trivial) (nd (h2 a) (op (.n 1) (of_decide_eq_true a) oN)))))) [4] [(14,.agg [vI .u64 s0.e0,vI .u64 (IntKind.wrap IntKind.u64 (↑(BitVec.toNat (BitVec.ofInt (IntKind.bits IntKind.u64) s0.e1 ||| BitVec.ofInt (IntKind.bits IntKind.u64) (IntKind.wrap IntKind.u64 (1 * 2 ^ Min.min (Int.toNat (Int.tmod b 64)) (IntKind.bits IntKind.u64))))):Int)),vI .u64 s0.e2,vI .u64 s0.e3])] ?_;refine sO oN [7,14] [(26,.agg [vI .u64 s0.e0,vI .u64 (IntKind.wrap IntKind.u64 (↑(BitVec.toNat (BitVec.ofInt (IntKind.bits IntKind.u64) s0.e1 ||| BitVec.ofInt (IntKind.bits IntKind.u64) (IntKind.wrap IntKind.u64 (1 * 2 ^ Min.min (Int.toNat (Int.tmod b 64)) (IntKind.bits IntKind.u64))))):Int)),vI .u64 s0.e2,vI .u64 s0.e3])] ?_;refine tD ?_;subst h;exact (endQ []).1
 ·have a:=decide_eq_true a;have h:=h.2.2.1 a;obtain ⟨h3,h⟩:=h;refine sO (nd (show (64:Int)≠(0:Int) from by first | decide | rfl | trivial) (nd (show (64:Int)≠(0:Int) from by first | decide | rfl | trivial) (op (.n 2) (of_decide_eq_true a) (nd (show (64:Int)≠(0:Int) from by first | decide | rfl | trivial) (nd (h3 a) (op (.n 2) (of_decide_eq_true a) oN)))))) [4] [(14,.agg [vI .u64 s0.e0,vI .u64 s0.e1,vI .u64 (IntKind.wrap IntKind.u64 (↑(BitVec.toNat (BitVec.ofInt (IntKind.bits IntKind.u64) s0.e2 ||| BitVec.ofInt (IntKind.bits IntKind.u64) (IntKind.wrap IntKind.u64 (1 * 2 ^ Min.min (Int.toNat (Int.tmod b 64)) (IntKind.bits IntKind.u64))))):Int)),vI .u64 s0.e3])] ?_;refine sO oN [7,14] [(26,.agg [vI .u64 s0.e0,vI .u64 s0.e1,vI .u64 (IntKind.wrap IntKind.u64 (↑(BitVec.toNat (BitVec.ofInt (IntKind.bits IntKind.u64) s0.e2 ||| BitVec.ofInt (IntKind.bits IntKind.u64) (IntKind.wrap IntKind.u64 (1 * 2 ^ Min.min (Int.toNat (Int.tmod b 64)) (IntKind.bits IntKind.u64))))):Int)),vI .u64 s0.e3])] ?_;refine tD ?_;subst h;exact (endQ []).1
 ·have a:=decide_eq_true a;have h:=h.2.2.2 a;obtain ⟨h4,h⟩:=h;refine sO (nd (show (64:Int)≠(0:Int) from by first | decide | rfl | trivial) (nd (show (64:Int)≠(0:Int) from by first | decide | rfl | trivial) (op (.n 3) (of_decide_eq_true a) (nd (show (64:Int)≠(0:Int) from by first | decide | rfl | trivial) (nd (h4 a) (op (.n 3) (of_decide_eq_true a) oN)))))) [4] [(14,.agg [vI .u64 s0.e0,vI .u64 s0.e1,vI .u64 s0.e2,vI .u64 (IntKind.wrap IntKind.u64 (↑(BitVec.toNat (BitVec.ofInt (IntKind.bits IntKind.u64) s0.e3 ||| BitVec.ofInt (IntKind.bits IntKind.u64) (IntKind.wrap IntKind.u64 (1 * 2 ^ Min.min (Int.toNat (Int.tmod b 64)) (IntKind.bits IntKind.u64))))):Int))])] ?_;refine sO oN [7,14] [(26,.agg [vI .u64 s0.e0,vI .u64 s0.e1,vI .u64 s0.e2,vI .u64 (IntKind.wrap IntKind.u64 (↑(BitVec.toNat (BitVec.ofInt (IntKind.bits IntKind.u64) s0.e3 ||| BitVec.ofInt (IntKind.bits IntKind.u64) (IntKind.wrap IntKind.u64 (1 * 2 ^ Min.min (Int.toNat (Int.tmod b 64)) (IntKind.bits IntKind.u64))))):Int))])] ?_;refine tD ?_;subst h;exact (endQ []).1
theorem zh8 (m:Int) (r:Int) (res:zb)
 (h:(∃ (n:Int→Int→Int→Int→Int→Prop) (p:Int→Int→Int→Int→Int→Nat),n 0 0 0 0 0∧(∀ (e:Int) (c:Int) (a:Int) (d:Int) (b:Int),n e c a d b→(ck (decide (b < 256)) (∃ s:Int→Int→Int→Int→Prop,(∀ (k:Int) (f:Int) (g:Int) (j:Int),s k f g j→(n k f g j (w64 (b+1))∧p k f g j (w64 (b+1)) < p e c a d b))∧(ck (decide (b≥m) && decide (b≤r)) (∃ l:zb,zbW ({ e0:=e,e1:=c,e2:=a,e3:=d }) b l∧s l.e0 l.e1 l.e2 l.e3) (s e c a d))) (res=({ e0:=e,e1:=c,e2:=a,e3:=d })))))):zau m r res:=by
 have kk:=cfOk [22] 23;refine fE kk Tryz.func49 [(1,vi m),(4,vi r)] ?_;refine sO oN [] [(13,.ptr 26 0),(26,.agg [vI .u64 0,vI .u64 0,vI .u64 0,vI .u64 0])] ?_;refine sO oN [] [(16,.ptr 32 0),(32,.agg [vI .u64 0,vI .u64 0,vI .u64 0,vI .u64 0])] ?_;refine qD ?_;refine sO oN [] [(19,vi 0)] ?_;refine bD (id:=0) ?_;obtain ⟨n,p,t,u⟩:=h;refine loE [] (u5 fun e c a d b=>[(19,vi b),(32,.agg [vI .u64 e,vI .u64 c,vI .u64 a,vI .u64 d])]) (u5 n) (u5 p) (0,0,0,0,0) [] t ?_;rintro ⟨e,c,a,d,b⟩ hi;have h:=u e c a d b hi;refine qD ?_;refine sO oN [] [(25,vB (decide (b < 256)))] ?_;refine cH 8 h (fun y h=>?_) (fun y h=>?_)
 ·refine kW [25] ?_;obtain ⟨s,w,h⟩:=h;refine sjE (u4 s) [] (u4 fun k f g j=>[(32,.agg [vI .u64 k,vI .u64 f,vI .u64 g,vI .u64 j])]) ?_ ?_
  ·rintro ⟨k,f,g,j⟩ hj;have h:=w k f g j hj;refine rO oN [] [(19,vi (w64 (b+1)))] ?_;exact lD (k,f,g,j,(w64 (b+1))) [] h
  ·refine bD (id:=1) ?_;refine sM [] [(55,vB (decide (b≥m) && decide (b≤r)))] ?_ (fun B=>?_)
   ·refine cH 18 h (fun v h=>?_) (fun v h=>?_)
    ·obtain ⟨l,A,h⟩:=h;refine rO (ca A oN) [55] [(32,zQ l)] ?_;exact jD (l.e0,l.e1,l.e2,l.e3) [] h
    ·refine kD ?_;exact jD (e,c,a,d) [] h
   ·rcases eft (decide (b≥m)) with o | o
    ·refine sO (g1 o 1113 oN) [] [(55,vB (decide (b≤r)))] ?_;exact Sem.cast (by try rw [o];kernel_rfl) B
    ·refine sO (g1 o 1113 oN) [] [(55,vB false)] ?_;exact Sem.cast (by try rw [o];kernel_rfl) B
 ·refine xD (i:=0) ?_;show Sem _ _ _ _ _;refine wkD [1,4,19,25] ?_;refine sO oN [16,32] [(26,.agg [vI .u64 e,vI .u64 c,vI .u64 a,vI .u64 d])] ?_;refine tD ?_;subst h;exact (endQ []).1
theorem zhy (s0:zb) (b:Int) (res:Bool)
 (h:(ck (decide (b≥0)) (ck (decide (b < 256)) ((w64 (Int.tdiv b 64)=0∨w64 (Int.tdiv b 64)=1∨w64 (Int.tdiv b 64)=2∨w64 (Int.tdiv b 64)=3)∧((decide (w64 (Int.tdiv b 64)=0))=true→((decide (b≥0))=true→((decide (b < 256))=true→((decide (w64 (Int.tdiv b 64)=0))=true→(0≤Int.tmod b 64))))∧(res=(IntKind.wrap IntKind.u64 (↑(BitVec.toNat (BitVec.ofInt (IntKind.bits IntKind.u64) (Int.fdiv s0.e0 (2 ^ Min.min (Int.toNat (Int.tmod b 64)) (IntKind.bits IntKind.u64))) &&& BitVec.ofInt (IntKind.bits IntKind.u64) 1)):Int) == 1)))∧((decide (w64 (Int.tdiv b 64)=1))=true→((decide (b≥0))=true→((decide (b < 256))=true→((decide (w64 (Int.tdiv b 64)=1))=true→(0≤Int.tmod b 64))))∧(res=(IntKind.wrap IntKind.u64 (↑(BitVec.toNat (BitVec.ofInt (IntKind.bits IntKind.u64) (Int.fdiv s0.e1 (2 ^ Min.min (Int.toNat (Int.tmod b 64)) (IntKind.bits IntKind.u64))) &&& BitVec.ofInt (IntKind.bits IntKind.u64) 1)):Int) == 1)))∧((decide (w64 (Int.tdiv b 64)=2))=true→((decide (b≥0))=true→((decide (b < 256))=true→((decide (w64 (Int.tdiv b 64)=2))=true→(0≤Int.tmod b 64))))∧(res=(IntKind.wrap IntKind.u64 (↑(BitVec.toNat (BitVec.ofInt (IntKind.bits IntKind.u64) (Int.fdiv s0.e2 (2 ^ Min.min (Int.toNat (Int.tmod b 64)) (IntKind.bits IntKind.u64))) &&& BitVec.ofInt (IntKind.bits IntKind.u64) 1)):Int) == 1)))∧((decide (w64 (Int.tdiv b 64)=3))=true→((decide (b≥0))=true→((decide (b < 256))=true→((decide (w64 (Int.tdiv b 64)=3))=true→(0≤Int.tmod b 64))))∧(res=(IntKind.wrap IntKind.u64 (↑(BitVec.toNat (BitVec.ofInt (IntKind.bits IntKind.u64) (Int.fdiv s0.e3 (2 ^ Min.min (Int.toNat (Int.tmod b 64)) (IntKind.bits IntKind.u64))) &&& BitVec.ofInt (IntKind.bits IntKind.u64) 1)):Int) == 1)))) (res=false)) (res=false))):zbr s0 b res:=by
 have kk:=cfOk [] 22;refine fE kk Tryz.func99 [(1,zQ s0),(4,vi b)] ?_;refine sO oN [1] [(7,.ptr 14 0),(14,zQ s0)] ?_;rcases eft (decide (b≥0)) with d | d
 ·have h:=h.1 d;rcases eft (decide (b < 256)) with a | a
  ·have h:=h.1 a;obtain ⟨e,h⟩:=h;rcases e with c | c | c | c
   ·have c:=decide_eq_true c;have h:=h.1 c;obtain ⟨h3,h⟩:=h;refine sO (g2 a d 44611 (nd (show (64:Int)≠(0:Int) from by first | decide | rfl | trivial) (g1 a 1 (op (.n 0) (of_decide_eq_true c) (g1 a 111 (nd (show (64:Int)≠(0:Int) from by first | decide | rfl | trivial) (g1 a 1 (nd (((h3 d) a) c) (g1 a 113 oN))))))))) [4,7,14] [(13,vB (IntKind.wrap IntKind.u64 (↑(BitVec.toNat (BitVec.ofInt (IntKind.bits IntKind.u64) (Int.fdiv s0.e0 (2 ^ Min.min (Int.toNat (Int.tmod b 64)) (IntKind.bits IntKind.u64))) &&& BitVec.ofInt (IntKind.bits IntKind.u64) 1)):Int) == 1))] ?_;refine tD ?_;subst h;exact (endQ []).1
   ·have c:=decide_eq_true c;have h:=h.2.1 c;obtain ⟨h4,h⟩:=h;refine sO (g2 a d 44611 (nd (show (64:Int)≠(0:Int) from by first | decide | rfl | trivial) (g1 a 1 (op (.n 1) (of_decide_eq_true c) (g1 a 111 (nd (show (64:Int)≠(0:Int) from by first | decide | rfl | trivial) (g1 a 1 (nd (((h4 d) a) c) (g1 a 113 oN))))))))) [4,7,14] [(13,vB (IntKind.wrap IntKind.u64 (↑(BitVec.toNat (BitVec.ofInt (IntKind.bits IntKind.u64) (Int.fdiv s0.e1 (2 ^ Min.min (Int.toNat (Int.tmod b 64)) (IntKind.bits IntKind.u64))) &&& BitVec.ofInt (IntKind.bits IntKind.u64) 1)):Int) == 1))] ?_;refine tD ?_;subst h;exact (endQ []).1
   ·have c:=decide_eq_true c;have h:=h.2.2.1 c;obtain ⟨h5,h⟩:=h;refine sO (g2 a d 44611 (nd (show (64:Int)≠(0:Int) from by first | decide | rfl | trivial) (g1 a 1 (op (.n 2) (of_decide_eq_true c) (g1 a 111 (nd (show (64:Int)≠(0:Int) from by first | decide | rfl | trivial) (g1 a 1 (nd (((h5 d) a) c) (g1 a 113 oN))))))))) [4,7,14] [(13,vB (IntKind.wrap IntKind.u64 (↑(BitVec.toNat (BitVec.ofInt (IntKind.bits IntKind.u64) (Int.fdiv s0.e2 (2 ^ Min.min (Int.toNat (Int.tmod b 64)) (IntKind.bits IntKind.u64))) &&& BitVec.ofInt (IntKind.bits IntKind.u64) 1)):Int) == 1))] ?_;refine tD ?_;subst h;exact (endQ []).1
   ·have c:=decide_eq_true c;have h:=h.2.2.2 c;obtain ⟨h6,h⟩:=h;refine sO (g2 a d 44611 (nd (show (64:Int)≠(0:Int) from by first | decide | rfl | trivial) (g1 a 1 (op (.n 3) (of_decide_eq_true c) (g1 a 111 (nd (show (64:Int)≠(0:Int) from by first | decide | rfl | trivial) (g1 a 1 (nd (((h6 d) a) c) (g1 a 113 oN))))))))) [4,7,14] [(13,vB (IntKind.wrap IntKind.u64 (↑(BitVec.toNat (BitVec.ofInt (IntKind.bits IntKind.u64) (Int.fdiv s0.e3 (2 ^ Min.min (Int.toNat (Int.tmod b 64)) (IntKind.bits IntKind.u64))) &&& BitVec.ofInt (IntKind.bits IntKind.u64) 1)):Int) == 1))] ?_;refine tD ?_;subst h;exact (endQ []).1
  ·have h:=h.2 a;refine sO (g2 a d 4461111111113 oN) [4,7,14] [(13,vB false)] ?_;refine tD ?_;subst h;exact (endQ []).1
 ·have h:=h.2 d;refine sO (g1 d 1138888888888 oN) [4,7,14] [(13,vB false)] ?_;refine tD ?_;subst h;exact (endQ []).1
theorem zhx (a:zb) (res:zb)
 (h:(∃ (m:Int→Int→Int→Int→Int→Prop) (o:Int→Int→Int→Int→Int→Nat),m 0 0 0 0 0∧(∀ (e:Int) (c:Int) (b:Int) (d:Int) (i:Int),m e c b d i→(ck (decide (i < 256)) (∃ p:Int→Int→Int→Int→Prop,(∀ (l:Int) (g:Int) (j:Int) (k:Int),p l g j k→(m l g j k (w64 (i+1))∧o l g j k (w64 (i+1)) < o e c b d i))∧(∃ n:Bool,zbr a i n∧(ck (!n) (∃ f:zb,zbW ({ e0:=e,e1:=c,e2:=b,e3:=d }) i f∧p f.e0 f.e1 f.e2 f.e3) (p e c b d)))) (res=({ e0:=e,e1:=c,e2:=b,e3:=d })))))):zcM a res:=by
 have kk:=cfOk [16] 17;refine fE kk Tryz.func129 [(1,zQ a)] ?_;refine sO oN [1] [(4,.ptr 8 0),(7,.ptr 14 0),(8,zQ a),(14,.agg [vI .u64 0,vI .u64 0,vI .u64 0,vI .u64 0])] ?_;refine sO oN [] [(10,.ptr 20 0),(20,.agg [vI .u64 0,vI .u64 0,vI .u64 0,vI .u64 0])] ?_;refine qD ?_;refine sO oN [] [(13,vi 0)] ?_;refine bD (id:=0) ?_;obtain ⟨m,o,r,s⟩:=h;refine loE [] (u5 fun e c b d i=>[(13,vi i),(20,.agg [vI .u64 e,vI .u64 c,vI .u64 b,vI .u64 d])]) (u5 m) (u5 o) (0,0,0,0,0) [] r ?_;rintro ⟨e,c,b,d,i⟩ hi;have h:=s e c b d i hi;refine qD ?_;refine sO oN [] [(19,vB (decide (i < 256)))] ?_;refine cH 6 h (fun v h=>?_) (fun v h=>?_)
 ·refine kW [19] ?_;obtain ⟨p,u,h⟩:=h;refine sjE (u4 p) [] (u4 fun l g j k=>[(20,.agg [vI .u64 l,vI .u64 g,vI .u64 j,vI .u64 k])]) ?_ ?_
  ·rintro ⟨l,g,j,k⟩ hj;have h:=u l g j k hj;refine rO oN [] [(13,vi (w64 (i+1)))] ?_;exact lD (l,g,j,k,(w64 (i+1))) [] h
  ·refine bD (id:=1) ?_;obtain ⟨n,y,h⟩:=h;refine sO (ca y oN) [] [(37,vB (!n))] ?_;refine cH 12 h (fun t h=>?_) (fun t h=>?_)
   ·obtain ⟨f,w,h⟩:=h;refine rO (ca w oN) [37] [(20,zQ f)] ?_;exact jD (f.e0,f.e1,f.e2,f.e3) [] h
   ·refine kD ?_;exact jD (e,c,b,d) [] h
 ·refine xD (i:=0) ?_;show Sem _ _ _ _ _;refine wkD [4,8,13,19] ?_;refine sO oN [10,20] [(14,.agg [vI .u64 e,vI .u64 c,vI .u64 b,vI .u64 d])] ?_;refine tD ?_;subst h;exact (endQ []).1
theorem zg6 (b:Int) (res:zf)
 (h:(∃ r0:zb,zau b b r0∧(res=({ Kind:=2,Set:=r0,Lo:=0,Hi:=0,Kids:=[] })))):zbf b res:=by
 have kk:=cfOk [] 7;refine fE kk Tryz.func130 [(1,vi b)] ?_;refine sO oN [] [(7,.ptr 14 0),(14,.agg [vi 0,vI .u64 0,vI .u64 0,vI .u64 0,vI .u64 0,vi 0,vi 0,oL 55 zc ([])])] ?_;obtain ⟨r0,a,h⟩:=h;refine sO (ca a oN) [1] [(14,.agg [vi 2,vI .u64 r0.e0,vI .u64 r0.e1,vI .u64 r0.e2,vI .u64 r0.e3,vi 0,vi 0,oL 55 zc ([])])] ?_;refine tD ?_;subst h;exact (endQ []).1
theorem zaw (m:ze) (res:zf) (fin:ze)
 (h:(∃ r0:Int,∃ o:ze,zq 8 m r0 o∧(ck (r0 == 0) (res=({ Kind:=1,Set:={ e0:=0,e1:=0,e2:=0,e3:=0 },Lo:=0,Hi:=0,Kids:=[] })∧fin=o) (ck (r0 == 1) (∃ b:zb,zau (97) (99) b∧(res=({ Kind:=2,Set:=b,Lo:=0,Hi:=0,Kids:=[] })∧fin=o)) (ck (r0 == 2) (∃ g:zb,zau (97) (97) g∧(∃ c:zb,zcM g c∧(res=({ Kind:=2,Set:=c,Lo:=0,Hi:=0,Kids:=[] })∧fin=o))) (ck (r0 == 3) (∃ a:Int,∃ j:ze,zq (6) o a j∧(0≤a)∧(Int.toNat a < 6)∧a < ↑(List.length ([10,45,90,0,255,48]))∧(∃ e:zf,zbf (gd [10,45,90,0,255,48] a) e∧(res=e∧fin=j))) (∃ f:Int,∃ i:ze,zq 3 o f i∧(∃ d:zf,zbf (w64 (97+f)) d∧(res=d∧fin=i))))))))):zbs m res fin:=by
 have kk:=cfOk [] 29;refine fE kk Tryz.func104 [(1,.ptr 3 0),(3,zl m)] ?_;refine sO oN [] [(7,.ptr 14 0),(14,.agg [vi 0,vI .u64 0,vI .u64 0,vI .u64 0,vI .u64 0,vi 0,vi 0,oL 55 zc ([])])] ?_;refine qD ?_;obtain ⟨r0,o,B,h⟩:=h;refine sO (ca B oN) [] [(3,zl o),(13,vi r0)] ?_;refine bD (id:=0) ?_;refine sO oN [] [(16,vB (r0 == 0))] ?_;refine cH 5 h (fun E h=>?_) (fun E h=>?_)
 ·refine sO oN [1,13,16] [(14,.agg [vi 1,vI .u64 0,vI .u64 0,vI .u64 0,vI .u64 0,vi 0,vi 0,oL 55 zc ([])])] ?_;refine tD ?_;obtain ⟨k,l⟩:=h;subst res fin;exact (endQ []).1
 ·refine sO oN [16] [(25,vB (r0 == 1))] ?_;refine cH 8 h (fun u h=>?_) (fun u h=>?_)
  ·obtain ⟨b,w,h⟩:=h;refine sO (ca w oN) [1,13,25] [(14,.agg [vi 2,vI .u64 b.e0,vI .u64 b.e1,vI .u64 b.e2,vI .u64 b.e3,vi 0,vi 0,oL 55 zc ([])])] ?_;refine tD ?_;obtain ⟨k,l⟩:=h;subst res fin;exact (endQ []).1
  ·refine sO oN [25] [(37,vB (r0 == 2))] ?_;refine cH 12 h (fun t h=>?_) (fun t h=>?_)
   ·obtain ⟨g,v,h⟩:=h;obtain ⟨c,y,h⟩:=h;refine sO (ca v (ca y oN)) [1,13,37] [(14,.agg [vi 2,vI .u64 c.e0,vI .u64 c.e1,vI .u64 c.e2,vI .u64 c.e3,vi 0,vi 0,oL 55 zc ([])])] ?_;refine tD ?_;obtain ⟨k,l⟩:=h;subst res fin;exact (endQ []).1
   ·refine sO oN [13,37] [(52,vB (r0 == 3))] ?_;refine cH 17 h (fun s h=>?_) (fun s h=>?_)
    ·obtain ⟨a,j,F,h⟩:=h;obtain ⟨h9,h⟩:=h;obtain ⟨D,h⟩:=h;obtain ⟨A,h⟩:=h;obtain ⟨e,r,h⟩:=h;refine sO (ca F (nd h9 (nd D (el (show ([FV.pv (Value.int IntKind.i64 (10)),FV.pv (Value.int IntKind.i64 (45:Int)),FV.pv (Value.int IntKind.i64 (90:Int)),FV.pv (Value.int IntKind.i64 (0)),FV.pv (Value.int IntKind.i64 (255:Int)),FV.pv (Value.int IntKind.i64 (48:Int))])[((0:Nat)+Int.toNat a:Nat)]?=some (fi (gd [(10:Int),(45:Int),(90:Int),(0:Int),(255:Int),(48:Int)] a)) from by have:=zbu za ([(10:Int),(45:Int),(90:Int),(0:Int),(255:Int),(48:Int)]) a _ rfl h9 A;simpa only [nm,enq,za] using this) (ca r oN))))) [1,52] [(3,zl j),(14,zbp e)] ?_;refine tD ?_;obtain ⟨k,l⟩:=h;subst res fin;exact (endQ []).1
    ·refine kW [52] ?_;obtain ⟨f,i,n,h⟩:=h;obtain ⟨d,p,h⟩:=h;refine sO (ca n (ca p oN)) [1] [(3,zl i),(14,zbp d)] ?_;refine tD ?_;obtain ⟨k,l⟩:=h;subst res fin;exact (endQ []).1
theorem zfz (kind:Int) (l:(List zf)) (res:zf)
 (h:(∃ (c:List zf→Int→Prop) (d:List zf→Int→Nat),c ([]) 0∧(∀ (a:List zf) (i:Int),c a i→(ck (decide (i < (↑(List.length l):Int))) (∃ e:List zf→Prop,(∀ (b:List zf),e b→(c b (w64 (i+1))∧d b (w64 (i+1)) < d a i))∧(0≤i)∧i < ↑(List.length l)∧(ck ((gd l i).Kind == kind) ((0≤i)∧i < ↑(List.length l)∧((List.length a+List.length (gd l i).Kids) * 80≤2 ^ 47)∧e (a++(gd l i).Kids)) ((0≤i)∧i < ↑(List.length l)∧((List.length a+1) * 80≤2 ^ 47)∧e (a++[gd l i])))) (res=({ Kind:=kind,Set:={ e0:=0,e1:=0,e2:=0,e3:=0 },Lo:=0,Hi:=0,Kids:=a })))))):zam kind l res:=by
 have kk:=cfOk [40] 41;refine fE kk Tryz.func105 [(1,vi kind),(4,vL zc l)] ?_;refine sO oN [] [(13,.ptr 26 0),(26,.agg [vi 0,vI .u64 0,vI .u64 0,vI .u64 0,vI .u64 0,vi 0,vi 0,oL 55 zc ([])])] ?_;refine sO oN [] [(16,.ptr 32 0),(32,.agg [vi kind,vI .u64 0,vI .u64 0,vI .u64 0,vI .u64 0,vi 0,vi 0,oL 55 zc ([])])] ?_;refine qD ?_;refine sO oN [] [(19,vi 0)] ?_;refine bD (id:=0) ?_;obtain ⟨c,d,f,g⟩:=h;refine loE [] (u2 fun a i=>[(19,vi i),(32,.agg [vi kind,vI .u64 0,vI .u64 0,vI .u64 0,vI .u64 0,vi 0,vi 0,oL 55 zc a])]) (u2 c) (u2 d) (([]),0) [] f ?_;rintro ⟨a,i⟩ hi;have h:=g a i hi;refine qD ?_;refine sV oN [] (List.length (List.map zc l)) (List.length l) (fun q=>[(37,vB (decide (i < (↑(q):Int))))]) ?_;refine cH 12 h (fun m h=>?_) (fun m h=>?_)
 ·refine kW [37] ?_;obtain ⟨e,j,h⟩:=h;refine sjE e [] (fun b=>[(32,.agg [vi kind,vI .u64 0,vI .u64 0,vI .u64 0,vI .u64 0,vi 0,vi 0,oL 55 zc b])]) ?_ ?_
  ·rintro b hj;have h:=j b hj;refine rO oN [] [(19,vi (w64 (i+1)))] ?_;exact lD (b,(w64 (i+1))) [] h
  ·refine bD (id:=1) ?_;obtain ⟨s,h⟩:=h;obtain ⟨u,h⟩:=h;refine sO (xo zc (zL _) s u oN) [] [(64,vB ((gd l i).Kind == kind))] ?_;refine cH 21 h (fun k h=>?_) (fun k h=>?_)
   ·obtain ⟨v,h⟩:=h;obtain ⟨p,h⟩:=h;obtain ⟨o,h⟩:=h;refine rV (xo zc (zL _) v p (nd (show (0:Nat)=(0:Nat)∧List.length (List.map zc a)=List.length (List.map zc a) from ⟨rfl,rfl⟩) (nd (show (List.length (List.map zc a)+List.length (List.map zc (gd l i).Kids)) * (80:Nat)≤(2:Nat) ^ (47:Nat) from by simpa only [nm] using o) (nd (show List.all (List.map zc (gd l i).Kids) (FV.fits (8:Nat))=true from by first | exact fits_api_Rx _ | exact keysenc_api_Rx _ | rfl | simp [isByteF,FV.fits,FV.size,FV.cells,FV.one,zL]) oN)))) [64] (show AV from .own 55 (List.map zc a++List.map zc (gd l i).Kids)) (oL 55 zc (a++(gd l i).Kids)) (fun q=>[(32,.agg [vi kind,vI .u64 0,vI .u64 0,vI .u64 0,vI .u64 0,vi 0,vi 0,q])]) ?_;exact jD (a++(gd l i).Kids) [] h
   ·obtain ⟨n,h⟩:=h;obtain ⟨r,h⟩:=h;obtain ⟨t,h⟩:=h;refine rV (xo zc (zL _) n r (apo zc a t oN)) [64] (show AV from .own 55 (List.map zc a++[FV.agg [FV.pv (Value.int IntKind.i64 (gd l i).Kind),FV.pv (Value.int IntKind.u64 (zb.e0 (gd l i).Set)),FV.pv (Value.int IntKind.u64 (zb.e1 (gd l i).Set)),FV.pv (Value.int IntKind.u64 (zb.e2 (gd l i).Set)),FV.pv (Value.int IntKind.u64 (zb.e3 (gd l i).Set)),FV.pv (Value.int IntKind.i64 (gd l i).Lo),FV.pv (Value.int IntKind.i64 (gd l i).Hi),FV.sl (List.map zc (gd l i).Kids)]])) (oL 55 zc (a++[gd l i])) (fun q=>[(32,.agg [vi kind,vI .u64 0,vI .u64 0,vI .u64 0,vI .u64 0,vi 0,vi 0,q])]) ?_;exact jD (a++[gd l i]) [] h
 ·refine xD (i:=0) ?_;show Sem _ _ _ _ _;refine wkD [1,4,19,37] ?_;refine sO (nd (show (0:Nat)=(0:Nat)∧List.length (List.map zc a)=List.length (List.map zc a) from ⟨rfl,rfl⟩) oN) [16,32] [(26,.agg [vi kind,vI .u64 0,vI .u64 0,vI .u64 0,vI .u64 0,vi 0,vi 0,oL 55 zc a])] ?_;refine tD ?_;subst h;exact (endQ []).1
theorem za1 (g:Int) (m:ze) (res:zf) (fin:ze)
 (h:(∃ r0:Int,∃ o:ze,zq 8 m r0 o∧(ck (decide (g < 1) || (decide (r0 < 2) || decide (o.At≥(↑(List.length o.L):Int)))) (∃ v:zf,∃ D:ze,zbs o v D∧(res=v∧fin=D)) (ck (decide (r0 < 5)) (∃ c:zf,∃ H:ze,zX (w64 (g - 1)) o c H∧(∃ a:zf,∃ B:ze,zX (w64 (g - 1)) H a B∧(∃ s:zf,zam 3 ([c,a]) s∧(res=s∧fin=B)))) (ck (r0 == 5) (∃ d:zf,∃ I:ze,zX (w64 (g - 1)) o d I∧(∃ b:zf,∃ E:ze,zX (w64 (g - 1)) I b E∧(∃ p:zf,zam 4 ([d,b]) p∧(res=p∧fin=E)))) (∃ f:Int,∃ A:ze,zq 3 o f A∧(∃ w:List Int→Int→Int→Prop,(∀ (r:List Int) (i:Int) (k:Int),w r i k→(∃ e:zf,∃ F:ze,zX (w64 (g - 2)) ({ L:=r,At:=i }) e F∧(res=({ Kind:=5,Set:={ e0:=0,e1:=0,e2:=0,e3:=0 },Lo:=f,Hi:=k,Kids:=[e] })∧fin=F)))∧(∃ t:Int,∃ l:ze,zq 2 A t l∧(ck (t == 1) (∃ j:Int,∃ n:ze,zq 2 l j n∧w n.L n.At (w64 ((if f > 1 then f else 1)+j))) (w l.L l.At (-1))))))))))):zX g m res fin:=by
 have kk:=cfOk [74] 75;refine fE kk Tryz.func76 [(1,.ptr 3 0),(3,zl m),(4,vi g)] ?_;refine sO oN [] [(13,.ptr 26 0),(26,.agg [vi 0,vI .u64 0,vI .u64 0,vI .u64 0,vI .u64 0,vi 0,vi 0,oL 55 zc ([])])] ?_;obtain ⟨r0,o,a6,h⟩:=h;refine sO (ca a6 oN) [] [(3,zl o),(16,vi r0)] ?_;refine qD ?_;refine sM [] [(79,vB (decide (g < 1) || (decide (r0 < 2) || decide (o.At≥(↑(List.length o.L):Int)))))] ?_ (fun N=>?_)
 ·refine cH 26 h (fun a7 h=>?_) (fun a7 h=>?_)
  ·obtain ⟨v,D,a5,h⟩:=h;refine sO (ca a5 oN) [1,4,16,79] [(3,zl D),(26,zbp v)] ?_;refine tD ?_;obtain ⟨J,M⟩:=h;subst res fin;exact (endQ []).1
  ·refine kW [79] ?_;refine qD ?_;refine bD (id:=0) ?_;refine sO oN [] [(88,vB (decide (r0 < 5)))] ?_;refine cH 29 h (fun a1 h=>?_) (fun a1 h=>?_)
   ·obtain ⟨c,H,a4,h⟩:=h;obtain ⟨a,B,a2,h⟩:=h;obtain ⟨s,a8,h⟩:=h;refine sO (ca a4 (ca a2 (ca (Eq.mp (by unfold zam;(try simp only [List.drop_zero,List.take_length]);first | done | simp only [nm,enq]:zam 3 ([c,a]) s=CallE Tryz.prog 105 [vi 3,.f (FV.sl (List.take (List.length [FV.agg [FV.pv (Value.int IntKind.i64 c.Kind),FV.pv (Value.int IntKind.u64 (zb.e0 c.Set)),FV.pv (Value.int IntKind.u64 (zb.e1 c.Set)),FV.pv (Value.int IntKind.u64 (zb.e2 c.Set)),FV.pv (Value.int IntKind.u64 (zb.e3 c.Set)),FV.pv (Value.int IntKind.i64 c.Lo),FV.pv (Value.int IntKind.i64 c.Hi),FV.sl (List.take (List.length (List.map zc c.Kids)) (List.drop 0 (List.map zc c.Kids)))],FV.agg [FV.pv (Value.int IntKind.i64 a.Kind),FV.pv (Value.int IntKind.u64 (zb.e0 a.Set)),FV.pv (Value.int IntKind.u64 (zb.e1 a.Set)),FV.pv (Value.int IntKind.u64 (zb.e2 a.Set)),FV.pv (Value.int IntKind.u64 (zb.e3 a.Set)),FV.pv (Value.int IntKind.i64 a.Lo),FV.pv (Value.int IntKind.i64 a.Hi),FV.sl (List.take (List.length (List.map zc a.Kids)) (List.drop 0 (List.map zc a.Kids)))]]) (List.drop 0 [FV.agg [FV.pv (Value.int IntKind.i64 c.Kind),FV.pv (Value.int IntKind.u64 (zb.e0 c.Set)),FV.pv (Value.int IntKind.u64 (zb.e1 c.Set)),FV.pv (Value.int IntKind.u64 (zb.e2 c.Set)),FV.pv (Value.int IntKind.u64 (zb.e3 c.Set)),FV.pv (Value.int IntKind.i64 c.Lo),FV.pv (Value.int IntKind.i64 c.Hi),FV.sl (List.take (List.length (List.map zc c.Kids)) (List.drop 0 (List.map zc c.Kids)))],FV.agg [FV.pv (Value.int IntKind.i64 a.Kind),FV.pv (Value.int IntKind.u64 (zb.e0 a.Set)),FV.pv (Value.int IntKind.u64 (zb.e1 a.Set)),FV.pv (Value.int IntKind.u64 (zb.e2 a.Set)),FV.pv (Value.int IntKind.u64 (zb.e3 a.Set)),FV.pv (Value.int IntKind.i64 a.Lo),FV.pv (Value.int IntKind.i64 a.Hi),FV.sl (List.take (List.length (List.map zc a.Kids)) (List.drop 0 (List.map zc a.Kids)))]])))] [] (zbp s) []) a8) oN))) [1,4,16,88] [(3,zl B),(26,zbp s)] ?_;refine tD ?_;obtain ⟨J,M⟩:=h;subst res fin;exact (endQ []).1
   ·refine sO oN [16,88] [(127,vB (r0 == 5))] ?_;refine cH 42 h (fun a3 h=>?_) (fun a3 h=>?_)
    ·obtain ⟨d,I,S,h⟩:=h;obtain ⟨b,E,V,h⟩:=h;obtain ⟨p,X,h⟩:=h;refine sO (ca S (ca V (ca (Eq.mp (by unfold zam;(try simp only [List.drop_zero,List.take_length]);first | done | simp only [nm,enq]:zam 4 ([d,b]) p=CallE Tryz.prog 105 [vi 4,.f (FV.sl (List.take (List.length [FV.agg [FV.pv (Value.int IntKind.i64 d.Kind),FV.pv (Value.int IntKind.u64 (zb.e0 d.Set)),FV.pv (Value.int IntKind.u64 (zb.e1 d.Set)),FV.pv (Value.int IntKind.u64 (zb.e2 d.Set)),FV.pv (Value.int IntKind.u64 (zb.e3 d.Set)),FV.pv (Value.int IntKind.i64 d.Lo),FV.pv (Value.int IntKind.i64 d.Hi),FV.sl (List.take (List.length (List.map zc d.Kids)) (List.drop 0 (List.map zc d.Kids)))],FV.agg [FV.pv (Value.int IntKind.i64 b.Kind),FV.pv (Value.int IntKind.u64 (zb.e0 b.Set)),FV.pv (Value.int IntKind.u64 (zb.e1 b.Set)),FV.pv (Value.int IntKind.u64 (zb.e2 b.Set)),FV.pv (Value.int IntKind.u64 (zb.e3 b.Set)),FV.pv (Value.int IntKind.i64 b.Lo),FV.pv (Value.int IntKind.i64 b.Hi),FV.sl (List.take (List.length (List.map zc b.Kids)) (List.drop 0 (List.map zc b.Kids)))]]) (List.drop 0 [FV.agg [FV.pv (Value.int IntKind.i64 d.Kind),FV.pv (Value.int IntKind.u64 (zb.e0 d.Set)),FV.pv (Value.int IntKind.u64 (zb.e1 d.Set)),FV.pv (Value.int IntKind.u64 (zb.e2 d.Set)),FV.pv (Value.int IntKind.u64 (zb.e3 d.Set)),FV.pv (Value.int IntKind.i64 d.Lo),FV.pv (Value.int IntKind.i64 d.Hi),FV.sl (List.take (List.length (List.map zc d.Kids)) (List.drop 0 (List.map zc d.Kids)))],FV.agg [FV.pv (Value.int IntKind.i64 b.Kind),FV.pv (Value.int IntKind.u64 (zb.e0 b.Set)),FV.pv (Value.int IntKind.u64 (zb.e1 b.Set)),FV.pv (Value.int IntKind.u64 (zb.e2 b.Set)),FV.pv (Value.int IntKind.u64 (zb.e3 b.Set)),FV.pv (Value.int IntKind.i64 b.Lo),FV.pv (Value.int IntKind.i64 b.Hi),FV.sl (List.take (List.length (List.map zc b.Kids)) (List.drop 0 (List.map zc b.Kids)))]])))] [] (zbp p) []) X) oN))) [1,4,127] [(3,zl E),(26,zbp p)] ?_;refine tD ?_;obtain ⟨J,M⟩:=h;subst res fin;exact (endQ []).1
    ·refine kW [127] ?_;obtain ⟨f,A,R,h⟩:=h;refine sO (ca R oN) [] [(3,zl A),(19,.ptr 38 0),(38,.agg [vi 5,vI .u64 0,vI .u64 0,vI .u64 0,vI .u64 0,vi f,vi (-1),oL 55 zc ([])])] ?_;obtain ⟨w,U,h⟩:=h;refine sjE (u3 w) [] (u3 fun r i k=>[(3,.agg [vL zF r,vi i]),(38,.agg [vi 5,vI .u64 0,vI .u64 0,vI .u64 0,vI .u64 0,vi f,vi k,oL 55 zc ([])])]) ?_ ?_
     ·rintro ⟨r,i,k⟩ hj;have h:=U r i k hj;obtain ⟨e,F,a0,h⟩:=h;refine sV (ca a0 oN) [1,4] (show AV from .own 55 ([FV.agg [FV.pv (Value.int IntKind.i64 e.Kind),FV.pv (Value.int IntKind.u64 (zb.e0 e.Set)),FV.pv (Value.int IntKind.u64 (zb.e1 e.Set)),FV.pv (Value.int IntKind.u64 (zb.e2 e.Set)),FV.pv (Value.int IntKind.u64 (zb.e3 e.Set)),FV.pv (Value.int IntKind.i64 e.Lo),FV.pv (Value.int IntKind.i64 e.Hi),FV.sl (List.take (List.length (List.map zc e.Kids)) (List.drop (0:Nat) (List.map zc e.Kids)))]])) (oL 55 zc ([e])) (fun q=>[(3,zl F),(38,.agg [vi 5,vI .u64 0,vI .u64 0,vI .u64 0,vI .u64 0,vi f,vi k,q])]) ?_;refine sO (nd (show (0:Nat)=(0:Nat)∧(1:Nat)=List.length (List.map zc [e]) from by first | decide | rfl | trivial | (simp only [nm]<;>first | decide | rfl | omega)) oN) [19,38] [(26,.agg [vi 5,vI .u64 0,vI .u64 0,vI .u64 0,vI .u64 0,vi f,vi k,oL 55 zc ([e])])] ?_;refine tD ?_;obtain ⟨J,M⟩:=h;subst res fin;exact (endQ []).1
     ·obtain ⟨t,l,Q,h⟩:=h;refine sO (ca Q oN) [] [(3,zl l),(181,vB (t == 1))] ?_;refine cH 60 h (fun Y h=>?_) (fun Y h=>?_)
      ·obtain ⟨j,n,O,h⟩:=h;refine rV (ca O oN) [181] (vi (w64 ((if true=true then if f > 1 then f else 1 else if f < 1 then f else 1)+j))) (vi (w64 ((if f > 1 then f else 1)+j))) (fun q=>[(3,zl n),(38,.agg [vi 5,vI .u64 0,vI .u64 0,vI .u64 0,vI .u64 0,vi f,q,oL 55 zc ([])])]) ?_;exact jD (n.L,n.At,(w64 ((if f > 1 then f else 1)+j))) [] h
      ·refine kD ?_;exact jD (l.L,l.At,(-1)) [] h
 ·rcases eft (decide (g < 1)) with u | u
  ·refine sO (g1 u 22388888888887 oN) [] [(79,vB true)] ?_;exact Sem.cast (by try rw [u];kernel_rfl) N
  ·rcases eft (decide (r0 < 2)) with y | y
   ·refine sO (g2 y u 55622222222223 oN) [] [(79,vB true)] ?_;exact Sem.cast (by try rw [u];try rw [y];kernel_rfl) N
   ·refine sV (g2 y u 55622222222223 oN) [] (List.length (List.map zF o.L)) (List.length o.L) (fun q=>[(79,vB (decide (o.At≥(↑(q):Int))))]) ?_;exact Sem.cast (by try rw [u];try rw [y];kernel_rfl) N
theorem zg0 (x:zf) (res:Int)
 (h:(ck (x.Kind == 2) (res=1) (∃ J3:Bool→Prop,(∀ (t9:Bool),J3 t9→(ck (t9) (∃ (c:Int→Int→Prop) (d:Int→Int→Nat),c 0 0∧(∀ (n:Int) (i:Int),c n i→(ck (decide (i < (↑(List.length x.Kids):Int))) ((0≤i)∧i < ↑(List.length x.Kids)∧(∃ b:Int,zaO (gd x.Kids i) b∧(ck (decide (w64 (n+b) > 1000000)) (res=(1000000)) (c (w64 (n+b)) (w64 (i+1))∧d (w64 (n+b)) (w64 (i+1)) < d n i)))) (∃ e:Int→Prop,(∀ (a:Int),e a→(res=(if false=true then if 1000000 > a then 1000000 else a else if 1000000 < a then 1000000 else a)))∧(ck (x.Kind == 5) (e (w64 (n * if (if false=true then if (if x.Hi > x.Lo then x.Hi else x.Lo) > 1000 then if x.Hi > x.Lo then x.Hi else x.Lo else 1000 else if (if x.Hi > x.Lo then x.Hi else x.Lo) < 1000 then if x.Hi > x.Lo then x.Hi else x.Lo else 1000) > 1 then if false=true then if (if x.Hi > x.Lo then x.Hi else x.Lo) > 1000 then if x.Hi > x.Lo then x.Hi else x.Lo else 1000 else if (if x.Hi > x.Lo then x.Hi else x.Lo) < 1000 then if x.Hi > x.Lo then x.Hi else x.Lo else 1000 else 1))) (e n)))))) (res=0)))∧(ck (x.Kind == 3) (J3 (x.Kind == 3)) (ck (x.Kind == 4) (J3 (x.Kind == 4)) (J3 (x.Kind == 5))))))):zaO x res:=by
 have kk:=cfOk [] 44;refine fE kk Tryz.func77 [(1,zD x)] ?_;refine sO oN [1] [(4,.ptr 8 0),(8,zD x)] ?_;refine qD ?_;refine sO oN [] [(19,vi x.Kind)] ?_;refine bD (id:=0) ?_;refine sO oN [] [(22,vB (x.Kind == 2))] ?_;refine cH 7 h (fun u h=>?_) (fun u h=>?_)
 ·refine sO oN [4,8,19,22] [(7,vi 1)] ?_;refine tD ?_;subst h;exact (endQ []).1
 ·obtain ⟨J3,w,h⟩:=h;refine sjE J3 [19,22] (fun t9=>[(28,vB t9)]) ?_ ?_
  ·rintro t9 hj;have h:=w t9 hj;refine cH 9 h (fun s h=>?_) (fun s h=>?_)
   ·refine sO oN [28] [(10,vi 0)] ?_;refine qD ?_;refine sO oN [] [(13,vi 0)] ?_;refine bD (id:=1) ?_;obtain ⟨c,d,f,g⟩:=h;refine loE [] (u2 fun n i=>[(10,vi n),(13,vi i)]) (u2 c) (u2 d) (0,0) [] f ?_;rintro ⟨n,i⟩ hi;have h:=g n i hi;refine qD ?_;refine sV oN [] (List.length (List.map zc x.Kids)) (List.length x.Kids) (fun q=>[(52,vB (decide (i < (↑(q):Int))))]) ?_;refine cH 17 h (fun m h=>?_) (fun m h=>?_)
    ·refine kW [52] ?_;refine qD ?_;refine bD (id:=2) ?_;obtain ⟨t,h⟩:=h;obtain ⟨v,h⟩:=h;obtain ⟨b,l,h⟩:=h;refine sO (xo zc (zL _) t v (ca l oN)) [] [(10,vi (w64 (n+b)))] ?_;refine sO oN [] [(88,vB (decide (w64 (n+b) > 1000000)))] ?_;refine cH 29 h (fun r h=>?_) (fun r h=>?_)
     ·refine sO oN [4,8,10,13,88] [(7,vi (1000000))] ?_;refine tD ?_;subst h;exact (endQ []).1
     ·refine kW [88] ?_;refine rO oN [] [(13,vi (w64 (i+1)))] ?_;exact lD ((w64 (n+b)),(w64 (i+1))) [] h
    ·refine xD (i:=1) ?_;show Sem _ _ _ _ _;refine wkD [13,52] ?_;obtain ⟨e,k,h⟩:=h;refine sjD e (fun a=>[(10,vi a)]) ?_ ?_
     ·rintro a hj;have h:=k a hj;refine sO oN [10] [(7,vi (if false=true then if 1000000 > a then 1000000 else a else if 1000000 < a then 1000000 else a))] ?_;refine tD ?_;subst h;exact (endQ []).1
     ·refine sO oN [] [(97,vB (x.Kind == 5))] ?_;refine cH 32 h (fun o h=>?_) (fun o h=>?_)
      ·refine rOE oN [4,8,97] [(10,vi (w64 (n * if true=true then if (if false=true then if (if true=true then if x.Hi > x.Lo then x.Hi else x.Lo else if x.Hi < x.Lo then x.Hi else x.Lo) > 1000 then if true=true then if x.Hi > x.Lo then x.Hi else x.Lo else if x.Hi < x.Lo then x.Hi else x.Lo else 1000 else if (if true=true then if x.Hi > x.Lo then x.Hi else x.Lo else if x.Hi < x.Lo then x.Hi else x.Lo) < 1000 then if true=true then if x.Hi > x.Lo then x.Hi else x.Lo else if x.Hi < x.Lo then x.Hi else x.Lo else 1000) > 1 then if false=true then if (if true=true then if x.Hi > x.Lo then x.Hi else x.Lo else if x.Hi < x.Lo then x.Hi else x.Lo) > 1000 then if true=true then if x.Hi > x.Lo then x.Hi else x.Lo else if x.Hi < x.Lo then x.Hi else x.Lo else 1000 else if (if true=true then if x.Hi > x.Lo then x.Hi else x.Lo else if x.Hi < x.Lo then x.Hi else x.Lo) < 1000 then if true=true then if x.Hi > x.Lo then x.Hi else x.Lo else if x.Hi < x.Lo then x.Hi else x.Lo else 1000 else 1 else if (if false=true then if (if true=true then if x.Hi > x.Lo then x.Hi else x.Lo else if x.Hi < x.Lo then x.Hi else x.Lo) > 1000 then if true=true then if x.Hi > x.Lo then x.Hi else x.Lo else if x.Hi < x.Lo then x.Hi else x.Lo else 1000 else if (if true=true then if x.Hi > x.Lo then x.Hi else x.Lo else if x.Hi < x.Lo then x.Hi else x.Lo) < 1000 then if true=true then if x.Hi > x.Lo then x.Hi else x.Lo else if x.Hi < x.Lo then x.Hi else x.Lo else 1000) < 1 then if false=true then if (if true=true then if x.Hi > x.Lo then x.Hi else x.Lo else if x.Hi < x.Lo then x.Hi else x.Lo) > 1000 then if true=true then if x.Hi > x.Lo then x.Hi else x.Lo else if x.Hi < x.Lo then x.Hi else x.Lo else 1000 else if (if true=true then if x.Hi > x.Lo then x.Hi else x.Lo else if x.Hi < x.Lo then x.Hi else x.Lo) < 1000 then if true=true then if x.Hi > x.Lo then x.Hi else x.Lo else if x.Hi < x.Lo then x.Hi else x.Lo else 1000 else 1)))] [(10,vi (w64 (n * if (if false=true then if (if x.Hi > x.Lo then x.Hi else x.Lo) > 1000 then if x.Hi > x.Lo then x.Hi else x.Lo else 1000 else if (if x.Hi > x.Lo then x.Hi else x.Lo) < 1000 then if x.Hi > x.Lo then x.Hi else x.Lo else 1000) > 1 then if false=true then if (if x.Hi > x.Lo then x.Hi else x.Lo) > 1000 then if x.Hi > x.Lo then x.Hi else x.Lo else 1000 else if (if x.Hi > x.Lo then x.Hi else x.Lo) < 1000 then if x.Hi > x.Lo then x.Hi else x.Lo else 1000 else 1)))] ?_;exact jD (w64 (n * if (if false=true then if (if x.Hi > x.Lo then x.Hi else x.Lo) > 1000 then if x.Hi > x.Lo then x.Hi else x.Lo else 1000 else if (if x.Hi > x.Lo then x.Hi else x.Lo) < 1000 then if x.Hi > x.Lo then x.Hi else x.Lo else 1000) > 1 then if false=true then if (if x.Hi > x.Lo then x.Hi else x.Lo) > 1000 then if x.Hi > x.Lo then x.Hi else x.Lo else 1000 else if (if x.Hi > x.Lo then x.Hi else x.Lo) < 1000 then if x.Hi > x.Lo then x.Hi else x.Lo else 1000 else 1)) [] h
      ·refine kD ?_;exact jD n [] h
   ·refine kW [4,8,28] ?_;refine sO oN [] [(7,vi 0)] ?_;refine tD ?_;subst h;exact (endQ []).1
  ·refine sO oN [22] [(28,vB (x.Kind == 3))] ?_;refine cH 9 h (fun j h=>?_) (fun j h=>?_)
   ·refine kD ?_;exact jD (x.Kind == 3) [] h
   ·refine sO oN [] [(28,vB (x.Kind == 4))] ?_;refine cH 9 h (fun p h=>?_) (fun p h=>?_)
    ·refine kD ?_;exact jD (x.Kind == 4) [] h
    ·refine rO oN [19] [(28,vB (x.Kind == 5))] ?_;exact jD (x.Kind == 5) [] h
theorem zdz (m:ze) (res:zf) (fin:ze)
 (h:(∃ r0:zf,∃ o:ze,zX 2 m r0 o∧(∃ b:Int,zaO r0 b∧(ck (decide (b > 12)) (∃ a:zb,zau (98) (98) a∧(res=({ Kind:=2,Set:=a,Lo:=0,Hi:=0,Kids:=[] })∧fin=o)) (res=r0∧fin=o))))):zaZ m res fin:=by
 have kk:=cfOk [11] 12;refine fE kk Tryz.func48 [(1,.ptr 3 0),(3,zl m)] ?_;refine sO oN [] [(7,.ptr 14 0),(14,.agg [vi 0,vI .u64 0,vI .u64 0,vI .u64 0,vI .u64 0,vi 0,vi 0,oL 55 zc ([])])] ?_;obtain ⟨r0,o,c,h⟩:=h;refine sO (ca c oN) [1] [(3,zl o),(10,.ptr 20 0),(20,zbp r0)] ?_;refine qD ?_;obtain ⟨b,e,h⟩:=h;refine sO (ca (Eq.mp (by unfold zaO;(try simp only [List.drop_zero,List.take_length]);first | done | simp only [nm,enq]:zaO r0 b=CallE Tryz.prog 77 [.agg [vi r0.Kind,vI .u64 (zb.e0 r0.Set),vI .u64 (zb.e1 r0.Set),vI .u64 (zb.e2 r0.Set),vI .u64 (zb.e3 r0.Set),vi r0.Lo,vi r0.Hi,.f (FV.sl (List.take (List.length (List.map zc r0.Kids)) (List.drop 0 (List.map zc r0.Kids))))]] [] (vi b) []) e) oN) [] [(20,zD r0),(25,vB (decide (b > 12)))] ?_;refine cH 8 h (fun i h=>?_) (fun i h=>?_)
 ·obtain ⟨a,f,h⟩:=h;refine sO (ca f oN) [10,20,25] [(14,.agg [vi 2,vI .u64 a.e0,vI .u64 a.e1,vI .u64 a.e2,vI .u64 a.e3,vi 0,vi 0,oL 55 zc ([])])] ?_;refine tD ?_;obtain ⟨g,d⟩:=h;subst res fin;exact (endQ [(14,7)]).1
 ·refine kW [25] ?_;refine sO oN [10,20] [(14,zD r0)] ?_;refine tD ?_;obtain ⟨g,d⟩:=h;subst res fin;exact (endQ []).1
theorem zdL (X:Int) (a3:Bool) (m:ze) (res:zw) (fin:ze)
 (h:(∃ r0:Int,∃ o:ze,zq 3 m r0 o∧(∃ J3:List Int→Int→Int→Prop,(∀ (a0:List Int) (O:Int) (u:Int),J3 a0 O u→(∃ a7:List Int→Int→List Int→Bool→Prop,(∀ (H:List Int) (B:Int) (b:List Int) (t:Bool),a7 H B b t→(∃ a5:Int,∃ b0:ze,zq (12) ({ L:=H,At:=B }) a5 b0∧(ck (a5 == 11) (res=({ Conds:=b,All:=t,Bol:=false,Rx:={ Kind:=0,Set:={ e0:=0,e1:=0,e2:=0,e3:=0 },Lo:=0,Hi:=0,Kids:=[] },Trail:={ Kind:=0,Set:={ e0:=0,e1:=0,e2:=0,e3:=0 },Lo:=0,Hi:=0,Kids:=[] },Eof:=true,Act:=w64 (1+r0),To:=u })∧fin=b0) (∃ a:zf,∃ R:ze,zaZ b0 a R∧(∃ a8:List Int→Int→Bool→Int→Int→Int→Int→Int→Int→Int→List zf→Prop,(∀ (I:List Int) (D:Int) (N:Bool) (k:Int) (g:Int) (e:Int) (f:Int) (j:Int) (n:Int) (p:Int) (l:List zf),a8 I D N k g e f j n p l→(res=({ Conds:=b,All:=t,Bol:=N,Rx:=a,Trail:={ Kind:=k,Set:={ e0:=g,e1:=e,e2:=f,e3:=j },Lo:=n,Hi:=p,Kids:=l },Eof:=false,Act:=w64 (1+r0),To:=u })∧fin=({ L:=I,At:=D })))∧(ck (!a3) (∃ F:Int,∃ a6:ze,zq (6) R F a6∧(∃ a2:Int,∃ Q:ze,zq 5 a6 a2 Q∧(ck (a2 == 4) (∃ d:zf,∃ S:ze,zaZ Q d S∧a8 S.L S.At (F == 5) d.Kind (zb.e0 d.Set) (zb.e1 d.Set) (zb.e2 d.Set) (zb.e3 d.Set) d.Lo d.Hi d.Kids) (a8 Q.L Q.At (F == 5) 0 0 0 0 0 0 0 ([]))))) (a8 R.L R.At false 0 0 0 0 0 0 0 ([]))))))))∧(∃ M:Int,∃ A:ze,zq 4 ({ L:=a0,At:=O }) M A∧(ck (M == 0) (a7 A.L A.At ([]) true) (ck (M == 1) (∃ (Y:List Int→Int→List Int→Int→Prop) (a4:List Int→Int→List Int→Int→Nat),Y A.L A.At ([]) 0∧(∀ (y:List Int) (v:Int) (c:List Int) (J:Int),Y y v c J→(ck (decide (J < X)) (∃ a9:List Int→Int→List Int→Prop,(∀ (w:List Int) (s:Int) (r:List Int),a9 w s r→(Y w s r (w64 (J+1))∧a4 w s r (w64 (J+1)) < a4 y v c J))∧(∃ a1:Int,∃ E:ze,zq 2 ({ L:=y,At:=v }) a1 E∧(ck (a1 == 1) (((List.length c+1) * 8≤2 ^ 47)∧a9 E.L E.At (c++[J])) (a9 E.L E.At c)))) (a7 y v c false)))) (a7 A.L A.At ([]) false))))))∧(ck (w64 (1+r0) == 3) (∃ U:Int,∃ V:ze,zq X o U V∧J3 V.L V.At U) (J3 o.L o.At 0))))):zbI X a3 m res fin:=by
 have kk:=cfOk [45,61] 62;refine fE kk Tryz.func26 [(1,.ptr 3 0),(3,zl m),(4,vi X),(7,vB a3)] ?_;refine sO oN [] [(19,.ptr 38 0),(38,.agg [oL 3 za ([]),vB false,vB false,vi 0,vI .u64 0,vI .u64 0,vI .u64 0,vI .u64 0,vi 0,vi 0,oL 55 zc ([]),vi 0,vI .u64 0,vI .u64 0,vI .u64 0,vI .u64 0,vi 0,vi 0,oL 55 zc ([]),vB false,vi 0,vi 0])] ?_;obtain ⟨r0,o,d5,h⟩:=h;refine sO (ca d5 oN) [] [(3,zl o),(22,.ptr 44 0),(44,.agg [oL 3 za ([]),vB false,vB false,vi 0,vI .u64 0,vI .u64 0,vI .u64 0,vI .u64 0,vi 0,vi 0,oL 55 zc ([]),vi 0,vI .u64 0,vI .u64 0,vI .u64 0,vI .u64 0,vi 0,vi 0,oL 55 zc ([]),vB false,vi (w64 (1+r0)),vi 0])] ?_;obtain ⟨J3,d6,h⟩:=h;refine sjE (u3 J3) [] (u3 fun a0 O u=>[(3,.agg [vL zF a0,vi O]),(44,.agg [oL 3 za ([]),vB false,vB false,vi 0,vI .u64 0,vI .u64 0,vI .u64 0,vI .u64 0,vi 0,vi 0,oL 55 zc ([]),vi 0,vI .u64 0,vI .u64 0,vI .u64 0,vI .u64 0,vi 0,vi 0,oL 55 zc ([]),vB false,vi (w64 (1+r0)),vi u])]) ?_ ?_
 ·rintro ⟨a0,O,u⟩ hj;have h:=d6 a0 O u hj;obtain ⟨a7,b6,h⟩:=h;refine sjE (u4 a7) [4] (u4 fun H B b t=>[(3,.agg [vL zF H,vi B]),(44,.agg [oL 3 za b,vB t,vB false,vi 0,vI .u64 0,vI .u64 0,vI .u64 0,vI .u64 0,vi 0,vi 0,oL 55 zc ([]),vi 0,vI .u64 0,vI .u64 0,vI .u64 0,vI .u64 0,vi 0,vi 0,oL 55 zc ([]),vB false,vi (w64 (1+r0)),vi u])]) ?_ ?_
  ·rintro ⟨H,B,b,t⟩ hj;have h:=b6 H B b t hj;refine qD ?_;obtain ⟨a5,b0,c2,h⟩:=h;refine sO (ca c2 oN) [] [(3,zl b0),(130,vB (a5 == 11))] ?_;refine cH 43 h (fun c0 h=>?_) (fun c0 h=>?_)
   ·refine sO oN [1,7,130] [(44,.agg [oL 3 za b,vB t,vB false,vi 0,vI .u64 0,vI .u64 0,vI .u64 0,vI .u64 0,vi 0,vi 0,oL 55 zc ([]),vi 0,vI .u64 0,vI .u64 0,vI .u64 0,vI .u64 0,vi 0,vi 0,oL 55 zc ([]),vB true,vi (w64 (1+r0)),vi u])] ?_;refine sO (nd (show (0:Nat)=(0:Nat)∧List.length (List.map za b)=List.length (List.map za b) from ⟨rfl,rfl⟩) (nd (show (0:Nat)=(0:Nat)∧(0:Nat)=List.length (List.map zc []) from by first | decide | rfl | trivial) (nd (show (0:Nat)=(0:Nat)∧(0:Nat)=List.length (List.map zc []) from by first | decide | rfl | trivial) oN))) [22,44] [(38,.agg [oL 3 za b,vB t,vB false,vi 0,vI .u64 0,vI .u64 0,vI .u64 0,vI .u64 0,vi 0,vi 0,oL 55 zc ([]),vi 0,vI .u64 0,vI .u64 0,vI .u64 0,vI .u64 0,vi 0,vi 0,oL 55 zc ([]),vB true,vi (w64 (1+r0)),vi u])] ?_;refine tD ?_;obtain ⟨d3,d4⟩:=h;subst res fin;exact (endQ [(38,10),(38,18)]).1
   ·refine kW [130] ?_;obtain ⟨a,R,c5,h⟩:=h;refine sO (ca c5 oN) [] [(3,zl R),(44,.agg [oL 3 za b,vB t,vB false,vi a.Kind,vI .u64 (zb.e0 a.Set),vI .u64 (zb.e1 a.Set),vI .u64 (zb.e2 a.Set),vI .u64 (zb.e3 a.Set),vi a.Lo,vi a.Hi,vL zc a.Kids,vi 0,vI .u64 0,vI .u64 0,vI .u64 0,vI .u64 0,vi 0,vi 0,oL 55 zc ([]),vB false,vi (w64 (1+r0)),vi u])] ?_;obtain ⟨a8,b5,h⟩:=h;refine sjE (u11 a8) [1,7] (u11 fun I D N k g e f j n p l=>[(3,.agg [vL zF I,vi D]),(44,.agg [oL 3 za b,vB t,vB N,vi a.Kind,vI .u64 (zb.e0 a.Set),vI .u64 (zb.e1 a.Set),vI .u64 (zb.e2 a.Set),vI .u64 (zb.e3 a.Set),vi a.Lo,vi a.Hi,vL zc a.Kids,vi k,vI .u64 g,vI .u64 e,vI .u64 f,vI .u64 j,vi n,vi p,vL zc l,vB false,vi (w64 (1+r0)),vi u])]) ?_ ?_
    ·rintro ⟨I,D,N,k,g,e,f,j,n,p,l⟩ hj;have h:=b5 I D N k g e f j n p l hj;refine sO (nd (show (0:Nat)=(0:Nat)∧List.length (List.map za b)=List.length (List.map za b) from ⟨rfl,rfl⟩) oN) [22,44] [(38,.agg [oL 3 za b,vB t,vB N,vi a.Kind,vI .u64 (zb.e0 a.Set),vI .u64 (zb.e1 a.Set),vI .u64 (zb.e2 a.Set),vI .u64 (zb.e3 a.Set),vi a.Lo,vi a.Hi,vL zc a.Kids,vi k,vI .u64 g,vI .u64 e,vI .u64 f,vI .u64 j,vi n,vi p,vL zc l,vB false,vi (w64 (1+r0)),vi u])] ?_;refine tD ?_;obtain ⟨d3,d4⟩:=h;subst res fin;exact (endQ []).1
    ·refine sO oN [7] [(151,vB (!a3))] ?_;refine cH 50 h (fun b4 h=>?_) (fun b4 h=>?_)
     ·obtain ⟨F,a6,c8,h⟩:=h;refine sO (ca c8 oN) [151] [(3,zl a6),(44,.agg [oL 3 za b,vB t,vB (F == 5),vi a.Kind,vI .u64 (zb.e0 a.Set),vI .u64 (zb.e1 a.Set),vI .u64 (zb.e2 a.Set),vI .u64 (zb.e3 a.Set),vi a.Lo,vi a.Hi,vL zc a.Kids,vi 0,vI .u64 0,vI .u64 0,vI .u64 0,vI .u64 0,vi 0,vi 0,oL 55 zc ([]),vB false,vi (w64 (1+r0)),vi u])] ?_;obtain ⟨a2,Q,c3,h⟩:=h;refine sO (ca c3 oN) [] [(3,zl Q),(172,vB (a2 == 4))] ?_;refine cH 57 h (fun d0 h=>?_) (fun d0 h=>?_)
      ·obtain ⟨d,S,c7,h⟩:=h;refine rO (ca c7 oN) [1,172] [(3,zl S),(44,.agg [oL 3 za b,vB t,vB (F == 5),vi a.Kind,vI .u64 (zb.e0 a.Set),vI .u64 (zb.e1 a.Set),vI .u64 (zb.e2 a.Set),vI .u64 (zb.e3 a.Set),vi a.Lo,vi a.Hi,vL zc a.Kids,vi d.Kind,vI .u64 (zb.e0 d.Set),vI .u64 (zb.e1 d.Set),vI .u64 (zb.e2 d.Set),vI .u64 (zb.e3 d.Set),vi d.Lo,vi d.Hi,vL zc d.Kids,vB false,vi (w64 (1+r0)),vi u])] ?_;exact jD (S.L,S.At,(F == 5),d.Kind,(zb.e0 d.Set),(zb.e1 d.Set),(zb.e2 d.Set),(zb.e3 d.Set),d.Lo,d.Hi,d.Kids) [] h
      ·refine kD ?_;exact jD (Q.L,Q.At,(F == 5),0,0,0,0,0,0,0,([])) [(44,18)] h
     ·refine kD ?_;exact jD (R.L,R.At,false,0,0,0,0,0,0,0,([])) [(44,18)] h
  ·obtain ⟨M,A,c4,h⟩:=h;refine sO (ca c4 oN) [] [(3,zl A),(64,vi M)] ?_;refine bD (id:=0) ?_;refine sO oN [] [(67,vB (M == 0))] ?_;refine cH 22 h (fun c6 h=>?_) (fun c6 h=>?_)
   ·refine rO oN [4,64,67] [(44,.agg [oL 3 za ([]),vB true,vB false,vi 0,vI .u64 0,vI .u64 0,vI .u64 0,vI .u64 0,vi 0,vi 0,oL 55 zc ([]),vi 0,vI .u64 0,vI .u64 0,vI .u64 0,vI .u64 0,vi 0,vi 0,oL 55 zc ([]),vB false,vi (w64 (1+r0)),vi u])] ?_;exact jD (A.L,A.At,([]),true) [] h
   ·refine sO oN [64,67] [(76,vB (M == 1))] ?_;refine cH 25 h (fun b8 h=>?_) (fun b8 h=>?_)
    ·refine sO oN [76] [(25,vi 0)] ?_;refine bD (id:=1) ?_;obtain ⟨Y,a4,b1,b2⟩:=h;refine loE [] (u4 fun y v c J=>[(3,.agg [vL zF y,vi v]),(25,vi J),(44,.agg [oL 3 za c,vB false,vB false,vi 0,vI .u64 0,vI .u64 0,vI .u64 0,vI .u64 0,vi 0,vi 0,oL 55 zc ([]),vi 0,vI .u64 0,vI .u64 0,vI .u64 0,vI .u64 0,vi 0,vi 0,oL 55 zc ([]),vB false,vi (w64 (1+r0)),vi u])]) (u4 Y) (u4 a4) (A.L,A.At,([]),0) [] b1 ?_;rintro ⟨y,v,c,J⟩ hi;have h:=b2 y v c J hi;refine qD ?_;refine sO oN [] [(88,vB (decide (J < X)))] ?_;refine cH 29 h (fun c9 h=>?_) (fun c9 h=>?_)
     ·refine kW [88] ?_;obtain ⟨a9,b3,h⟩:=h;refine sjE (u3 a9) [] (u3 fun w s r=>[(3,.agg [vL zF w,vi s]),(44,.agg [oL 3 za r,vB false,vB false,vi 0,vI .u64 0,vI .u64 0,vI .u64 0,vI .u64 0,vi 0,vi 0,oL 55 zc ([]),vi 0,vI .u64 0,vI .u64 0,vI .u64 0,vI .u64 0,vi 0,vi 0,oL 55 zc ([]),vB false,vi (w64 (1+r0)),vi u])]) ?_ ?_
      ·rintro ⟨w,s,r⟩ hj;have h:=b3 w s r hj;refine rO oN [] [(25,vi (w64 (J+1)))] ?_;exact lD (w,s,r,(w64 (J+1))) [] h
      ·refine bD (id:=2) ?_;obtain ⟨a1,E,b7,h⟩:=h;refine sO (ca b7 oN) [] [(3,zl E),(103,vB (a1 == 1))] ?_;refine cH 34 h (fun c1 h=>?_) (fun c1 h=>?_)
       ·obtain ⟨d2,h⟩:=h;refine rV (apo za c d2 oN) [103] (show AV from .own 3 (List.map za c++[FV.pv (Value.int IntKind.i64 J)])) (oL 3 za (c++[J])) (fun q=>[(44,.agg [q,vB false,vB false,vi 0,vI .u64 0,vI .u64 0,vI .u64 0,vI .u64 0,vi 0,vi 0,oL 55 zc ([]),vi 0,vI .u64 0,vI .u64 0,vI .u64 0,vI .u64 0,vi 0,vi 0,oL 55 zc ([]),vB false,vi (w64 (1+r0)),vi u])]) ?_;exact jD (E.L,E.At,(c++[J])) [] h
       ·refine kD ?_;exact jD (E.L,E.At,c) [] h
     ·refine xD (i:=1) ?_;exact jD (y,v,c,false) [] h
    ·refine kD ?_;exact jD (A.L,A.At,([]),false) [] h
 ·refine sO oN [] [(46,vB (w64 (1+r0) == 3))] ?_;refine cH 15 h (fun b9 h=>?_) (fun b9 h=>?_)
  ·obtain ⟨U,V,d1,h⟩:=h;refine rO (ca d1 oN) [46] [(3,zl V),(44,.agg [oL 3 za ([]),vB false,vB false,vi 0,vI .u64 0,vI .u64 0,vI .u64 0,vI .u64 0,vi 0,vi 0,oL 55 zc ([]),vi 0,vI .u64 0,vI .u64 0,vI .u64 0,vI .u64 0,vi 0,vi 0,oL 55 zc ([]),vB false,vi (w64 (1+r0)),vi U])] ?_;exact jD (V.L,V.At,U) [] h
  ·refine kD ?_;exact jD (o.L,o.At,0) [] h
theorem zg4 (l:(List Int)) (n:Bool) (res:zr)
 (h:(∃ J2:List Int→Prop,(∀ (p:List Int),J2 p→(∃ r0:Int,∃ o:ze,zq 3 ({ L:=p,At:=0 }) r0 o∧(∃ e:Int,∃ v:ze,zq 2 o e v∧(0≤w64 (1+r0)∧Int.toNat (w64 (1+r0))≤3)∧(∃ f:Int,∃ t:ze,zq 3 v f t∧(∃ k:Int,∃ m:ze,zq 4 t k m∧(∃ (g:List zw→Int→List Int→Int→Prop) (r:List zw→Int→List Int→Int→Nat),g ([]) (w64 (1+k)) m.L m.At∧(∀ (a:List zw) (i:Int) (d:List Int) (c:Int),g a i d c→(ck (decide (i > 0)) (∃ b:zw,∃ j:ze,zbI (w64 (1+r0)) n ({ L:=d,At:=c }) b j∧((List.length a+1) * 216≤2 ^ 47)∧(g (a++[b]) (w64 (i - 1)) j.L j.At∧r (a++[b]) (w64 (i - 1)) j.L j.At < r a i d c)) (res=({ Conds:=List.take (Int.toNat (w64 (1+r0))) [{ Name:={ data:=#[(73:UInt8),(78:UInt8),(73:UInt8),(84:UInt8),(73:UInt8),(65:UInt8),(76:UInt8)] },Exclusive:=false },{ Name:={ data:=#[(66:UInt8)] },Exclusive:=e == 1 },{ Name:={ data:=#[(67:UInt8),(95:UInt8),(49:UInt8)] },Exclusive:=false }],Default:=decide (f > 0),Rules:=a }))))))))))∧(ck (decide ((↑(List.length l):Int) > 60)) (((0:Int)≤60∧Int.toNat 60≤List.length l∧List.all (List.map zF l) (FV.fits 1)=true)∧J2 (List.take (Int.toNat 60) l)) (J2 l)))):zbJ l n res:=by
 have kk:=cfOk [49] 50;refine fE kk Tryz.func10 [(1,vL zF l),(4,vB n)] ?_;refine sO oN [] [(13,.ptr 26 0),(26,.agg [oL 81 zn ([]),vB false,oL 57 zg ([])])] ?_;obtain ⟨J2,E,h⟩:=h;refine sjE J2 [] (fun p=>[(1,vL zF p)]) ?_ ?_
 ·rintro p hj;have h:=E p hj;refine sO oN [1] [(16,.ptr 98 0),(98,.agg [vL zF p,vi 0])] ?_;obtain ⟨r0,o,D,h⟩:=h;refine sO (ca D oN) [] [(19,vi (w64 (1+r0))),(98,zl o)] ?_;obtain ⟨e,v,F,h⟩:=h;obtain ⟨h5,h⟩:=h;obtain ⟨f,t,H,h⟩:=h;refine sV (ca F (nd (show True∧(0:Int)≤w64 ((1:Int)+r0)∧(0:Nat)=(0:Nat)∧Int.toNat (w64 ((1:Int)+r0))≤(3:Nat) from by simpa only [nm] using h5) (ca H oN))) [] (show AV from .f (FV.sl (List.take (Int.toNat (w64 ((1:Int)+r0))) (List.drop (0:Nat) [FV.agg [FV.pv (Value.string { data:=#[(73:UInt8),(78:UInt8),(73:UInt8),(84:UInt8),(73:UInt8),(65:UInt8),(76:UInt8)] }),FV.pv (Value.bool false)],FV.agg [FV.pv (Value.string { data:=#[(66:UInt8)] }),FV.pv (Value.bool (e == 1))],FV.agg [FV.pv (Value.string { data:=#[(67:UInt8),(95:UInt8),(49:UInt8)] }),FV.pv (Value.bool false)]])))) (vL zn (List.take (Int.toNat (w64 (1+r0))) [{ Name:={ data:=#[(73:UInt8),(78:UInt8),(73:UInt8),(84:UInt8),(73:UInt8),(65:UInt8),(76:UInt8)] },Exclusive:=false },{ Name:={ data:=#[(66:UInt8)] },Exclusive:=e == 1 },{ Name:={ data:=#[(67:UInt8),(95:UInt8),(49:UInt8)] },Exclusive:=false }])) (fun q=>[(22,.ptr 44 0),(44,.agg [q,vB (decide (f > 0)),oL 57 zg ([])]),(98,zl t)]) ?_;refine qD ?_;obtain ⟨k,m,B,h⟩:=h;refine sO (ca B oN) [] [(25,vi (w64 (1+k))),(98,zl m)] ?_;refine bD (id:=0) ?_;obtain ⟨g,r,s,u⟩:=h;refine loE [] (u4 fun a i d c=>[(25,vi i),(44,.agg [vL zn (List.take (Int.toNat (w64 (1+r0))) [{ Name:={ data:=#[(73:UInt8),(78:UInt8),(73:UInt8),(84:UInt8),(73:UInt8),(65:UInt8),(76:UInt8)] },Exclusive:=false },{ Name:={ data:=#[(66:UInt8)] },Exclusive:=e == 1 },{ Name:={ data:=#[(67:UInt8),(95:UInt8),(49:UInt8)] },Exclusive:=false }]),vB (decide (f > 0)),oL 57 zg a]),(98,.agg [vL zF d,vi c])]) (u4 g) (u4 r) (([]),(w64 (1+k)),m.L,m.At) [] s ?_;rintro ⟨a,i,d,c⟩ hi;have h:=u a i d c hi;refine qD ?_;refine sO oN [] [(112,vB (decide (i > 0)))] ?_;refine cH 37 h (fun y h=>?_) (fun y h=>?_)
  ·refine kW [112] ?_;refine qD ?_;refine bD (id:=1) ?_;obtain ⟨b,j,A,h⟩:=h;obtain ⟨I,h⟩:=h;refine rV (ca A (apo zg a I oN)) [] (show AV from .own 57 (List.map zg a++[FV.agg [FV.sl (List.take (List.length (List.map za b.Conds)) (List.drop (0:Nat) (List.map za b.Conds))),FV.pv (Value.bool b.All),FV.pv (Value.bool b.Bol),FV.pv (Value.int IntKind.i64 (zf.Kind b.Rx)),FV.pv (Value.int IntKind.u64 (zf.Set b.Rx).e0),FV.pv (Value.int IntKind.u64 (zf.Set b.Rx).e1),FV.pv (Value.int IntKind.u64 (zf.Set b.Rx).e2),FV.pv (Value.int IntKind.u64 (zf.Set b.Rx).e3),FV.pv (Value.int IntKind.i64 (zf.Lo b.Rx)),FV.pv (Value.int IntKind.i64 (zf.Hi b.Rx)),FV.sl (List.map zc (zf.Kids b.Rx)),FV.pv (Value.int IntKind.i64 (zf.Kind b.Trail)),FV.pv (Value.int IntKind.u64 (zf.Set b.Trail).e0),FV.pv (Value.int IntKind.u64 (zf.Set b.Trail).e1),FV.pv (Value.int IntKind.u64 (zf.Set b.Trail).e2),FV.pv (Value.int IntKind.u64 (zf.Set b.Trail).e3),FV.pv (Value.int IntKind.i64 (zf.Lo b.Trail)),FV.pv (Value.int IntKind.i64 (zf.Hi b.Trail)),FV.sl (List.map zc (zf.Kids b.Trail)),FV.pv (Value.bool b.Eof),FV.pv (Value.int IntKind.i64 b.Act),FV.pv (Value.int IntKind.i64 b.To)]])) (oL 57 zg (a++[b])) (fun q=>[(44,.agg [vL zn (List.take (Int.toNat (w64 (1+r0))) [{ Name:={ data:=#[(73:UInt8),(78:UInt8),(73:UInt8),(84:UInt8),(73:UInt8),(65:UInt8),(76:UInt8)] },Exclusive:=false },{ Name:={ data:=#[(66:UInt8)] },Exclusive:=e == 1 },{ Name:={ data:=#[(67:UInt8),(95:UInt8),(49:UInt8)] },Exclusive:=false }]),vB (decide (f > 0)),q]),(98,zl j)]) ?_;show Sem _ _ _ _ _;refine rO oN [] [(25,vi (w64 (i - 1)))] ?_;exact lD ((a++[b]),(w64 (i - 1)),j.L,j.At) [] h
  ·refine xD (i:=0) ?_;show Sem _ _ _ _ _;refine wkD [4,16,19,25,98,112] ?_;refine sO (nd (show (0:Nat)=(0:Nat)∧List.length (List.map zg a)=List.length (List.map zg a) from ⟨rfl,rfl⟩) oN) [22,44] [(26,.agg [vL zn (List.take (Int.toNat (w64 (1+r0))) [{ Name:={ data:=#[(73:UInt8),(78:UInt8),(73:UInt8),(84:UInt8),(73:UInt8),(65:UInt8),(76:UInt8)] },Exclusive:=false },{ Name:={ data:=#[(66:UInt8)] },Exclusive:=e == 1 },{ Name:={ data:=#[(67:UInt8),(95:UInt8),(49:UInt8)] },Exclusive:=false }]),vB (decide (f > 0)),oL 57 zg a])] ?_;refine tD ?_;obtain he0:=h;subst res;exact (endD [] (.agg [vL zn (List.take (Int.toNat (w64 (1+r0))) [{ Name:={ data:=#[(73:UInt8),(78:UInt8),(73:UInt8),(84:UInt8),(73:UInt8),(65:UInt8),(76:UInt8)] },Exclusive:=false },{ Name:={ data:=#[(66:UInt8)] },Exclusive:=e == 1 },{ Name:={ data:=#[(67:UInt8),(95:UInt8),(49:UInt8)] },Exclusive:=false }]),vB (decide (f > 0)),oL 57 zg a]) []).1
 ·refine sV oN [] (List.length (List.map zF l)) (List.length l) (fun q=>[(34,vB (decide ((↑(q):Int) > 60)))]) ?_;refine cH 11 h (fun w h=>?_) (fun w h=>?_)
  ·obtain ⟨J,h⟩:=h;refine rOE (nd (show True∧(0:Int)≤(60:Int)∧(0:Nat)≤Int.toNat (60:Int)∧Int.toNat (60:Int)≤List.length (List.map zF l)∧List.all (List.map zF l) (FV.fits (1:Nat))=true from by simpa only [nm] using J) oN) [34] [(1,.f (FV.sl (List.take (Int.toNat 60 - 0) (List.drop 0 (List.map zF l)))))] [(1,vL zF (List.take (Int.toNat 60) l))] ?_;exact jD (List.take (Int.toNat 60) l) [] h
  ·refine kD ?_;exact jD l [] h
end Go.Ev
namespace Go.Ev
open Go Go.Proofs
set_option maxRecDepth 8000
end Go.Ev
namespace Go.Ev
open Go Go.Proofs
set_option maxRecDepth 8000
set_option maxHeartbeats 1000000
theorem zg1 (l:(List zb)) (a:Int) (b:Int) (res:Bool)
 (h:(∃ (c:Int→Prop) (d:Int→Nat),c 0∧(∀ (i:Int),c i→(ck (decide (i < (↑(List.length l):Int))) ((0≤i)∧i < ↑(List.length l)∧(∃ f:Bool,zbr (gd l i) a f∧(0≤i)∧i < ↑(List.length l)∧(∃ e:Bool,zbr (gd l i) b e∧(ck (!f == e) (res=false) (c (w64 (i+1))∧d (w64 (i+1)) < d i))))) (res=true))))):zcy l a b res:=by
 have kk:=cfOk [] 27;refine fE kk Tryz.func97 [(1,vL zm l),(4,vi a),(7,vi b)] ?_;refine sO oN [] [] ?_;refine qD ?_;refine sO oN [] [(22,vi 0)] ?_;refine bD (id:=0) ?_;obtain ⟨c,d,g,j⟩:=h;refine loE [] (fun i=>[(22,vi i)]) c d 0 [] g ?_;rintro i hi;have h:=j i hi;refine qD ?_;refine sV oN [] (List.length (List.map zm l)) (List.length l) (fun q=>[(34,vB (decide (i < (↑(q):Int))))]) ?_;refine cH 11 h (fun k h=>?_) (fun k h=>?_)
 ·refine kW [34] ?_;refine qD ?_;refine bD (id:=1) ?_;obtain ⟨p,h⟩:=h;obtain ⟨t,h⟩:=h;obtain ⟨f,n,h⟩:=h;obtain ⟨s,h⟩:=h;obtain ⟨r,h⟩:=h;obtain ⟨e,o,h⟩:=h;refine sO (xo zm (zbH _) p t (ca n (xo zm (zbH _) s r (ca o oN)))) [] [(79,vB (!f == e))] ?_;refine cH 26 h (fun m h=>?_) (fun m h=>?_)
  ·refine sO oN [1,4,7,22,79] [(19,vB false)] ?_;refine tD ?_;subst h;exact (endQ []).1
  ·refine kW [79] ?_;refine rO oN [] [(22,vi (w64 (i+1)))] ?_;exact lD (w64 (i+1)) [] h
 ·refine xD (i:=0) ?_;show Sem _ _ _ _ _;refine wkD [1,4,7,22,34] ?_;refine sO oN [] [(19,vB true)] ?_;refine tD ?_;subst h;exact (endQ []).1
theorem zgb (l:(List zb)) (res:(List Int)) (res_1:Int)
 (h:(∃ (e:List Int→Int→Int→Prop) (p:List Int→Int→Int→Nat),e ([]) 0 0∧(∀ (a:List Int) (n:Int) (b:Int),e a n b→(ck (decide (b < 256)) (∃ (f:Int→Int→Prop) (r:Int→Int→Nat),f (-1) 0∧(∀ (d:Int) (c:Int),f d c→(ck (decide (c < b) && decide (d < 0)) (∃ t:Int→Prop,(∀ (k:Int),t k→(f k (w64 (c+1))∧r k (w64 (c+1)) < r d c))∧(∃ j:Bool,zcy l c b j∧(ck (j) ((0≤c)∧(Int.toNat c < List.length a)∧c < ↑(List.length a)∧t (gd a c)) (t d)))) (∃ v:Int→Int→Prop,(∀ (m:Int) (g:Int),v m g→((List.length a+1) * 8≤2 ^ 47)∧(e (a++[g]) m (w64 (b+1))∧p (a++[g]) m (w64 (b+1)) < p a n b))∧(ck (decide (d < 0)) (v (w64 (n+1)) n) (v n d)))))) (res=a∧res_1=n))))):zce l res res_1:=by
 have kk:=cfOk [39,40] 41;refine fE kk Tryz.func68 [(1,vL zm l)] ?_;refine sO oN [] [] ?_;refine sO oN [] [(13,oL 3 za ([]))] ?_;refine sO oN [] [(16,vi 0)] ?_;refine qD ?_;refine sO oN [] [(19,vi 0)] ?_;refine bD (id:=0) ?_;obtain ⟨e,p,s,w⟩:=h;refine loE [] (u3 fun a n b=>[(13,oL 3 za a),(16,vi n),(19,vi b)]) (u3 e) (u3 p) (([]),0,0) [] s ?_;rintro ⟨a,n,b⟩ hi;have h:=w a n b hi;refine qD ?_;refine sO oN [] [(31,vB (decide (b < 256)))] ?_;refine cH 10 h (fun D h=>?_) (fun D h=>?_)
 ·refine kW [31] ?_;refine qD ?_;refine bD (id:=1) ?_;refine sO oN [] [(22,vi (-1))] ?_;refine qD ?_;refine sO oN [] [(25,vi 0)] ?_;refine bD (id:=2) ?_;obtain ⟨f,r,u,y⟩:=h;refine loE [] (u2 fun d c=>[(22,vi d),(25,vi c)]) (u2 f) (u2 r) ((-1),0) [] u ?_;rintro ⟨d,c⟩ hi;have h:=y d c hi;refine qD ?_;refine sM [] [(58,vB (decide (c < b) && decide (d < 0)))] ?_ (fun A=>?_)
  ·refine cH 19 h (fun B h=>?_) (fun B h=>?_)
   ·refine kW [58] ?_;obtain ⟨t,M,h⟩:=h;refine sjE t [] (fun k=>[(22,vi k)]) ?_ ?_
    ·rintro k hj;have h:=M k hj;refine rO oN [] [(25,vi (w64 (c+1)))] ?_;exact lD (k,(w64 (c+1))) [] h
    ·refine bD (id:=3) ?_;obtain ⟨j,E,h⟩:=h;refine sO (ca E oN) [] [(76,vB j)] ?_;refine cH 25 h (fun F h=>?_) (fun F h=>?_)
     ·obtain ⟨I,h⟩:=h;obtain ⟨Q,h⟩:=h;obtain ⟨O,h⟩:=h;refine rO (nd I (nd (show Int.toNat c < List.length (List.map za a) from by simpa only [nm] using Q) (el (show (List.map za a)[((0:Nat)+Int.toNat c:Nat)]?=some (fi (gd a c)) from by have:=zbu za a c _ rfl I O;simpa only [nm,enq,za] using this) oN))) [76] [(22,vi (gd a c))] ?_;exact jD (gd a c) [] h
     ·refine kD ?_;exact jD d [] h
   ·refine xD (i:=2) ?_;show Sem _ _ _ _ _;refine wkD [25,58] ?_;obtain ⟨v,J,h⟩:=h;refine sjE (u2 v) [] (u2 fun m g=>[(16,vi m),(22,vi g)]) ?_ ?_
    ·rintro ⟨m,g⟩ hj;have h:=J m g hj;obtain ⟨N,h⟩:=h;refine rOE (apo za a N oN) [22] [(13,.own 3 (List.map za a++[FV.pv (Value.int IntKind.i64 g)]))] [(13,oL 3 za (a++[g]))] ?_;show Sem _ _ _ _ _;refine rO oN [] [(19,vi (w64 (b+1)))] ?_;exact lD ((a++[g]),m,(w64 (b+1))) [] h
    ·refine sO oN [] [(94,vB (decide (d < 0)))] ?_;refine cH 31 h (fun H h=>?_) (fun H h=>?_)
     ·refine sO oN [94] [(22,vi n)] ?_;refine rO oN [] [(16,vi (w64 (n+1)))] ?_;exact jD ((w64 (n+1)),n) [] h
     ·refine kD ?_;exact jD (n,d) [] h
  ·rcases eft (decide (c < b)) with o | o
   ·refine sO (g1 o 113 oN) [] [(58,vB (decide (d < 0)))] ?_;exact Sem.cast (by try rw [o];kernel_rfl) A
   ·refine sO (g1 o 113 oN) [] [(58,vB false)] ?_;exact Sem.cast (by try rw [o];kernel_rfl) A
 ·refine xD (i:=0) ?_;show Sem _ _ _ _ _;refine wkD [1,19,31] ?_;refine sO oN [13,16] [(7,oL 3 za a),(10,vi n)] ?_;refine tD ?_;obtain ⟨S,R⟩:=h;subst res res_1;exact (endD [] (.tup [.f (FV.sl (List.take (List.length (List.map za a)) (List.drop 0 (List.map za a)))),vi n]) []).1
theorem zgc (m:(List Int)) (n:Int) (res:(List Int))
 (h:(∃ (e:List Int→Int→Prop) (l:List Int→Int→Nat),e ([]) 0∧(∀ (d:List Int) (k:Int),e d k→(ck (decide (k < n) && decide (k < 256)) (∃ (f:Int→Int→Prop) (j:Int→Int→Nat),f (-1) (w64 ((↑(List.length m):Int) - 1))∧(∀ (a:Int) (c:Int),f a c→(ck (decide (c≥0)) (∃ p:Int→Prop,(∀ (b:Int),p b→(f b (w64 (c - 1))∧j b (w64 (c - 1)) < j a c))∧(0≤c)∧c < ↑(List.length m)∧(ck (gd m c == k) (p c) (p a))) (((List.length d+1) * 8≤2 ^ 47)∧(e (d++[a]) (w64 (k+1))∧l (d++[a]) (w64 (k+1)) < l d k))))) (res=d))))):zcf m n res:=by
 have kk:=cfOk [36] 37;refine fE kk Tryz.func69 [(1,vL za m),(4,vi n)] ?_;refine sO oN [] [] ?_;refine sO oN [] [(16,oL 3 za ([]))] ?_;refine qD ?_;refine sO oN [] [(19,vi 0)] ?_;refine bD (id:=0) ?_;obtain ⟨e,l,r,t⟩:=h;refine loE [] (u2 fun d k=>[(16,oL 3 za d),(19,vi k)]) (u2 e) (u2 l) (([]),0) [] r ?_;rintro ⟨d,k⟩ hi;have h:=t d k hi;refine qD ?_;refine sM [] [(46,vB (decide (k < n) && decide (k < 256)))] ?_ (fun u=>?_)
 ·refine cH 15 h (fun w h=>?_) (fun w h=>?_)
  ·refine kW [46] ?_;refine qD ?_;refine bD (id:=1) ?_;refine sO oN [] [(22,vi (-1))] ?_;refine qD ?_;refine sV oN [] (List.length (List.map za m)) (List.length m) (fun q=>[(25,vi (w64 ((↑(q):Int) - 1)))]) ?_;refine bD (id:=2) ?_;obtain ⟨f,j,o,s⟩:=h;refine loE [] (u2 fun a c=>[(22,vi a),(25,vi c)]) (u2 f) (u2 j) ((-1),(w64 ((↑(List.length m):Int) - 1))) [] o ?_;rintro ⟨a,c⟩ hi;have h:=s a c hi;refine qD ?_;refine sO oN [] [(67,vB (decide (c≥0)))] ?_;refine cH 22 h (fun v h=>?_) (fun v h=>?_)
   ·refine kW [67] ?_;obtain ⟨p,y,h⟩:=h;refine sjE p [] (fun b=>[(22,vi b)]) ?_ ?_
    ·rintro b hj;have h:=y b hj;refine rO oN [] [(25,vi (w64 (c - 1)))] ?_;exact lD (b,(w64 (c - 1))) [] h
    ·refine bD (id:=3) ?_;obtain ⟨D,h⟩:=h;obtain ⟨E,h⟩:=h;refine sO (xo za rfl D E oN) [] [(91,vB (gd m c == k))] ?_;refine cH 30 h (fun A h=>?_) (fun A h=>?_)
     ·refine rO oN [91] [(22,vi c)] ?_;exact jD c [] h
     ·refine kD ?_;exact jD a [] h
   ·refine xD (i:=2) ?_;show Sem _ _ _ _ _;refine wkD [25,67] ?_;obtain ⟨B,h⟩:=h;refine rOE (apo za d B oN) [22] [(16,.own 3 (List.map za d++[FV.pv (Value.int IntKind.i64 a)]))] [(16,oL 3 za (d++[a]))] ?_;show Sem _ _ _ _ _;refine rO oN [] [(19,vi (w64 (k+1)))] ?_;exact lD ((d++[a]),(w64 (k+1))) [] h
  ·refine xD (i:=0) ?_;show Sem _ _ _ _ _;refine wkD [1,4,19,46] ?_;refine sO oN [16] [(13,oL 3 za d)] ?_;refine tD ?_;subst h;exact (endQ []).1
 ·rcases eft (decide (k < n)) with g | g
  ·refine sO (g1 g 113 oN) [] [(46,vB (decide (k < 256)))] ?_;exact Sem.cast (by try rw [g];kernel_rfl) u
  ·refine sO (g1 g 113 oN) [] [(46,vB false)] ?_;exact Sem.cast (by try rw [g];kernel_rfl) u
theorem zfy (l:(List Int)) (a:Int) (d:Int) (res:Bool)
 (h:(∃ (c:Int→Prop) (e:Int→Nat),c 0∧(∀ (i:Int),c i→(ck (decide (i < (↑(List.length l):Int))) ((0≤i)∧i < ↑(List.length l)∧((decide (gd l i < a))=false→(0≤i))∧((decide (gd l i < a))=false→i < ↑(List.length l))∧(ck (decide (gd l i < a) || decide (gd l i≥d)) (res=false) (c (w64 (i+1))∧e (w64 (i+1)) < e i))) (res=true))))):zaB l a d res:=by
 have kk:=cfOk [] 28;refine fE kk Tryz.func100 [(1,vL za l),(4,vi a),(7,vi d)] ?_;refine sO oN [] [] ?_;refine qD ?_;refine sO oN [] [(22,vi 0)] ?_;refine bD (id:=0) ?_;obtain ⟨c,e,f,g⟩:=h;refine loE [] (fun i=>[(22,vi i)]) c e 0 [] f ?_;rintro i hi;have h:=g i hi;refine qD ?_;refine sV oN [] (List.length (List.map za l)) (List.length l) (fun q=>[(34,vB (decide (i < (↑(q):Int))))]) ?_;refine cH 11 h (fun o h=>?_) (fun o h=>?_)
 ·refine kW [34] ?_;refine qD ?_;refine bD (id:=1) ?_;obtain ⟨k,h⟩:=h;obtain ⟨m,h⟩:=h;obtain ⟨r,p,h⟩:=h;refine sM [] [(82,vB (decide (gd l i < a) || decide (gd l i≥d)))] ?_ (fun j=>?_)
  ·refine cH 27 h (fun n h=>?_) (fun n h=>?_)
   ·refine sO oN [1,4,7,22,82] [(19,vB false)] ?_;refine tD ?_;subst h;exact (endQ []).1
   ·refine kW [82] ?_;refine rO oN [] [(22,vi (w64 (i+1)))] ?_;exact lD (w64 (i+1)) [] h
  ·rcases eft (decide (gd l i < a)) with b | b
   ·refine sO (xo za rfl k m (g1 b 2222223 oN)) [] [(82,vB true)] ?_;exact Sem.cast (by try rw [b];kernel_rfl) j
   ·refine sO (xo za rfl k m (g1 b 222 (xo za rfl (r b) (p b) (g1 b 2223 oN)))) [] [(82,vB (decide (gd l i≥d)))] ?_;exact Sem.cast (by try rw [b];kernel_rfl) j
 ·refine xD (i:=0) ?_;show Sem _ _ _ _ _;refine wkD [1,4,7,22,34] ?_;refine sO oN [] [(19,vB true)] ?_;refine tD ?_;subst h;exact (endQ []).1
theorem zf9 (m:(List Int)) (res:Int)
 (h:(∃ (a:Int→Int→Prop) (c:Int→Int→Nat),a 0 0∧(∀ (n:Int) (i:Int),a n i→(ck (decide (i < (↑(List.length m):Int))) ((0≤i)∧i < ↑(List.length m)∧(a (if w64 (gd m i+1) > n then w64 (gd m i+1) else n) (w64 (i+1))∧c (if w64 (gd m i+1) > n then w64 (gd m i+1) else n) (w64 (i+1)) < c n i)) (res=n))))):zav m res:=by
 have kk:=cfOk [18] 19;refine fE kk Tryz.func24 [(1,vL za m)] ?_;refine sO oN [] [] ?_;refine sO oN [] [(10,vi 0)] ?_;refine qD ?_;refine sO oN [] [(13,vi 0)] ?_;refine bD (id:=0) ?_;obtain ⟨a,c,b,d⟩:=h;refine loE [] (u2 fun n i=>[(10,vi n),(13,vi i)]) (u2 a) (u2 c) (0,0) [] b ?_;rintro ⟨n,i⟩ hi;have h:=d n i hi;refine qD ?_;refine sV oN [] (List.length (List.map za m)) (List.length m) (fun q=>[(25,vB (decide (i < (↑(q):Int))))]) ?_;refine cH 8 h (fun e h=>?_) (fun e h=>?_)
 ·refine kW [25] ?_;refine qD ?_;refine bD (id:=1) ?_;obtain ⟨h8,h⟩:=h;obtain ⟨h9,h⟩:=h;refine rOE (xo za rfl h8 h9 oN) [] [(10,vi (if true=true then if w64 (gd m i+1) > n then w64 (gd m i+1) else n else if w64 (gd m i+1) < n then w64 (gd m i+1) else n))] [(10,vi (if w64 (gd m i+1) > n then w64 (gd m i+1) else n))] ?_;show Sem _ _ _ _ _;refine rO oN [] [(13,vi (w64 (i+1)))] ?_;exact lD ((if w64 (gd m i+1) > n then w64 (gd m i+1) else n),(w64 (i+1))) [] h
 ·refine xD (i:=0) ?_;show Sem _ _ _ _ _;refine wkD [1,13,25] ?_;refine sO oN [10] [(7,vi n)] ?_;refine tD ?_;subst h;exact (endQ []).1
theorem zga (d:zZ) (res:Bool)
 (h:(ck (decide ((↑(List.length d.Rows):Int) > 500)) (res=false) (ck ((↑(List.length (List.map za d.Accept)):Int) != (↑(List.length d.Rows):Int)) (res=false) (ck ((↑(List.length (List.map za d.Map)):Int) != 256) (res=false) (ck (decide ((↑(List.length (List.map za d.Start)):Int) > 16)) (res=false) (∃ r0:Bool,zaB d.Map 0 (256) r0∧(ck (!r0) (res=false) (∃ o:Bool,zaB d.Accept (-1) (40) o∧(ck (!o) (res=false) (∃ n:Bool,zaB d.Start (-1) ((↑(List.length d.Rows):Int)) n∧(ck (!n) (res=false) (∃ c:Int,zav d.Map c∧(∃ (e:Int→Prop) (p:Int→Nat),e 0∧(∀ (i:Int),e i→(ck (decide (i < (↑(List.length d.Rows):Int))) ((0≤i)∧i < ↑(List.length d.Rows)∧(ck ((↑(List.length (List.map za (gd d.Rows i))):Int) != c) (res=false) ((((↑(List.length (List.map za (gd d.Rows i))):Int) != c)=false→(0≤i))∧(((↑(List.length (List.map za (gd d.Rows i))):Int) != c)=false→i < ↑(List.length d.Rows))∧(∃ m:Bool,zaB (gd d.Rows i) (-1) ((↑(List.length d.Rows):Int)) m∧(ck (!m) (res=false) (e (w64 (i+1))∧p (w64 (i+1)) < p i)))))) (res=true)))))))))))))))):zcd d res:=by
 have kk:=cfOk [] 75;refine fE kk Tryz.func72 [(1,zar d)] ?_;refine sO oN [1] [(4,.ptr 8 0),(8,zar d)] ?_;refine sV oN [] (List.length (List.map zj d.Rows)) (List.length d.Rows) (fun q=>[(10,vi ((↑(q):Int)))]) ?_;refine qD ?_;rcases eft (decide ((↑(List.length d.Rows):Int) > 500)) with g | g
 ·have h:=h.1 g;refine sO (g1 g 22222388887888878888788887888887 oN) [] [(145,vB true)] ?_;refine cD (t:=48) (b:=true) (fun w=>?_) (fun w=>?_)
  ·refine sO oN [4,8,10,145] [(7,vB false)] ?_;refine tD ?_;subst h;exact (endQ []).1
  ·cases w
 ·have h:=h.2 g;rcases eft ((↑(List.length (List.map za d.Accept)):Int) != (↑(List.length d.Rows):Int)) with j | j
  ·have h:=h.1 j;refine sO (g2 j g 55555622223888878888788887888887 oN) [] [(145,vB true)] ?_;refine cD (t:=48) (b:=true) (fun B=>?_) (fun B=>?_)
   ·refine sO oN [4,8,10,145] [(7,vB false)] ?_;refine tD ?_;subst h;exact (endQ []).1
   ·cases B
  ·have h:=h.2 j;rcases eft ((↑(List.length (List.map za d.Map)):Int) != 256) with k | k
   ·have h:=h.1 k;refine sO (g1 g 222223 (g2 k j 55556222238888788887888887 oN)) [] [(145,vB true)] ?_;refine cD (t:=48) (b:=true) (fun y=>?_) (fun y=>?_)
    ·refine sO oN [4,8,10,145] [(7,vB false)] ?_;refine tD ?_;subst h;exact (endQ []).1
    ·cases y
   ·have h:=h.2 k;rcases eft (decide ((↑(List.length (List.map za d.Start)):Int) > 16)) with f | f
    ·have h:=h.1 f;refine sO (g2 j g 55555622223 (g2 f k 555562222388887888887 oN)) [] [(145,vB true)] ?_;refine cD (t:=48) (b:=true) (fun D=>?_) (fun D=>?_)
     ·refine sO oN [4,8,10,145] [(7,vB false)] ?_;refine tD ?_;subst h;exact (endQ []).1
     ·cases D
    ·have h:=h.2 f;obtain ⟨r0,F,h⟩:=h;rcases eft (!r0) with l | l
     ·have h:=h.1 l;refine sO (g2 j g 55555622223 (g2 f k 55556222 (ca F (g2 l f 5622223888887 oN)))) [] [(145,vB true)] ?_;refine cD (t:=48) (b:=true) (fun v=>?_) (fun v=>?_)
      ·refine sO oN [4,8,10,145] [(7,vB false)] ?_;refine tD ?_;subst h;exact (endQ []).1
      ·cases v
     ·have h:=h.2 l;obtain ⟨o,O,h⟩:=h;rcases eft (!o) with r | r
      ·have h:=h.1 r;refine sO (g2 j g 55555622223 (g2 f k 55556222 (ca F (g2 l f 56222 (ca O (g2 r l 56222223 oN)))))) [] [(145,vB true)] ?_;refine cD (t:=48) (b:=true) (fun A=>?_) (fun A=>?_)
       ·refine sO oN [4,8,10,145] [(7,vB false)] ?_;refine tD ?_;subst h;exact (endQ []).1
       ·cases A
      ·have h:=h.2 r;obtain ⟨n,S,h⟩:=h;refine sO (g2 j g 55555622223 (g2 f k 55556222 (ca F (g2 l f 56222 (ca O (g2 r l 562222 (ca S (g1 r 23 oN)))))))) [] [(145,vB (!n))] ?_;refine cH 48 h (fun U h=>?_) (fun U h=>?_)
       ·refine sO oN [4,8,10,145] [(7,vB false)] ?_;refine tD ?_;subst h;exact (endQ []).1
       ·refine kW [145] ?_;obtain ⟨c,I,h⟩:=h;refine sO (ca I oN) [] [(13,vi c)] ?_;refine qD ?_;refine sO oN [] [(16,vi 0)] ?_;refine bD (id:=0) ?_;obtain ⟨e,p,s,u⟩:=h;refine loE [] (fun i=>[(16,vi i)]) e p 0 [] s ?_;rintro i hi;have h:=u i hi;refine qD ?_;refine sO oN [] [(163,vB (decide (i < (↑(List.length d.Rows):Int))))] ?_;refine cH 54 h (fun J h=>?_) (fun J h=>?_)
        ·refine kW [163] ?_;refine qD ?_;refine bD (id:=1) ?_;obtain ⟨M,h⟩:=h;obtain ⟨H,h⟩:=h;rcases eft ((↑(List.length (List.map za (gd d.Rows i))):Int) != c) with a | a
         ·have h:=h.1 a;refine sO (xo zj rfl M H (g1 a 222222223 oN)) [] [(223,vB true)] ?_;refine cD (t:=74) (b:=true) (fun E=>?_) (fun E=>?_)
          ·refine sO oN [4,8,10,13,16,223] [(7,vB false)] ?_;refine tD ?_;subst h;exact (endQ []).1
          ·cases E
         ·have h:=h.2 a;obtain ⟨V,h⟩:=h;obtain ⟨R,h⟩:=h;obtain ⟨m,N,h⟩:=h;refine sO (xo zj rfl M H (g1 a 2222 (xo zj rfl (V a) (R a) (g1 a 222 (ca N (g1 a 23 oN)))))) [] [(223,vB (!m))] ?_;refine cH 74 h (fun Q h=>?_) (fun Q h=>?_)
          ·refine sO oN [4,8,10,13,16,223] [(7,vB false)] ?_;refine tD ?_;subst h;exact (endQ []).1
          ·refine kW [223] ?_;refine rO oN [] [(16,vi (w64 (i+1)))] ?_;exact lD (w64 (i+1)) [] h
        ·refine xD (i:=0) ?_;show Sem _ _ _ _ _;refine wkD [4,8,10,13,16,163] ?_;refine sO oN [] [(7,vB true)] ?_;refine tD ?_;subst h;exact (endQ []).1
theorem zgZ (m:(List Int)) (res:(List Int))
 (h:(∃ (g:List Int→Int→Prop) (l:List Int→Int→Nat),g ([]) 0∧(∀ (a:List Int) (c0:Int),g a c0→(∃ j:Int,zav m j∧(ck (decide (c0 < j)) (∃ n:List Int→Prop,(∀ (d:List Int),n d→(g d (w64 (c0+1))∧l d (w64 (c0+1)) < l a c0))∧(∃ (f:Bool→Int→Prop) (k:Bool→Int→Nat),f false 0∧(∀ (b:Bool) (c:Int),f b c→(ck (decide (c < (↑(List.length m):Int))) (((b)=false→(0≤c))∧((b)=false→c < ↑(List.length m))∧(f (b || gd m c == c0) (w64 (c+1))∧k (b || gd m c == c0) (w64 (c+1)) < k b c)) (ck (b) (((List.length a+1) * 8≤2 ^ 47)∧n (a++[c0])) (n a)))))) (res=a)))))):zcx m res:=by
 have kk:=cfOk [33] 34;refine fE kk Tryz.func102 [(1,vL za m)] ?_;refine sO oN [] [] ?_;refine sO oN [] [(10,oL 3 za ([]))] ?_;refine qD ?_;refine sO oN [] [(13,vi 0)] ?_;refine bD (id:=0) ?_;obtain ⟨g,l,p,s⟩:=h;refine loE [] (u2 fun a c0=>[(10,oL 3 za a),(13,vi c0)]) (u2 g) (u2 l) (([]),0) [] p ?_;rintro ⟨a,c0⟩ hi;have h:=s a c0 hi;refine qD ?_;obtain ⟨j,t,h⟩:=h;refine sO (ca t oN) [] [(31,vB (decide (c0 < j)))] ?_;refine cH 10 h (fun y h=>?_) (fun y h=>?_)
 ·refine kW [31] ?_;obtain ⟨n,v,h⟩:=h;refine sjE n [] (fun d=>[(10,oL 3 za d)]) ?_ ?_
  ·rintro d hj;have h:=v d hj;refine rO oN [] [(13,vi (w64 (c0+1)))] ?_;exact lD (d,(w64 (c0+1))) [] h
  ·refine bD (id:=1) ?_;refine sO oN [] [(16,vB false)] ?_;refine qD ?_;refine sO oN [] [(19,vi 0)] ?_;refine bD (id:=2) ?_;obtain ⟨f,k,o,r⟩:=h;refine loE [] (u2 fun b c=>[(16,vB b),(19,vi c)]) (u2 f) (u2 k) (false,0) [] o ?_;rintro ⟨b,c⟩ hi;have h:=r b c hi;refine qD ?_;refine sV oN [] (List.length (List.map za m)) (List.length m) (fun q=>[(49,vB (decide (c < (↑(q):Int))))]) ?_;refine cH 16 h (fun w h=>?_) (fun w h=>?_)
   ·refine kW [49] ?_;refine qD ?_;refine bD (id:=3) ?_;obtain ⟨D,E,h⟩:=h;refine rM [] [(16,vB (b || gd m c == c0))] ?_ (fun u=>?_)
    ·show Sem _ _ _ _ _;refine rO oN [] [(19,vi (w64 (c+1)))] ?_;exact lD ((b || gd m c == c0),(w64 (c+1))) [] h
    ·rcases eft (b) with e | e
     ·refine rO (g1 e 2222223 oN) [] [(16,vB true)] ?_;exact kcast (by try rw [e];kernel_rfl) u
     ·refine rO (g1 e 222 (xo za rfl (D e) (E e) (g1 e 2223 oN))) [] [(16,vB (gd m c == c0))] ?_;exact kcast (by try rw [e];kernel_rfl) u
   ·refine xD (i:=2) ?_;show Sem _ _ _ _ _;refine wkD [19,49] ?_;refine sO oN [16] [(85,vB b)] ?_;refine cH 28 h (fun A h=>?_) (fun A h=>?_)
    ·obtain ⟨B,h⟩:=h;refine rOE (apo za a B oN) [85] [(10,.own 3 (List.map za a++[FV.pv (Value.int IntKind.i64 c0)]))] [(10,oL 3 za (a++[c0]))] ?_;exact jD (a++[c0]) [] h
    ·refine kD ?_;exact jD a [] h
 ·refine xD (i:=0) ?_;show Sem _ _ _ _ _;refine wkD [1,13,31] ?_;refine sO oN [10] [(7,oL 3 za a)] ?_;refine tD ?_;subst h;exact (endQ []).1
theorem zf7 (g:(List Int)) (k:Int) (res:Int)
 (h:(ck (decide (k < 0)) (res=(-1)) ((0≤k)∧k < ↑(List.length g)∧(res=(gd g k))))):zcc g k res:=by
 have kk:=cfOk [] 11;refine fE kk Tryz.func103 [(1,vL za g),(4,vi k)] ?_;refine sO oN [] [] ?_;refine qD ?_;refine sO oN [] [(19,vB (decide (k < 0)))] ?_;refine cH 6 h (fun a h=>?_) (fun a h=>?_)
 ·refine sO oN [1,4,19] [(13,vi (-1))] ?_;refine tD ?_;subst h;exact (endQ []).1
 ·refine kW [19] ?_;obtain ⟨h1,h⟩:=h;obtain ⟨h2,h⟩:=h;refine sO (xo za rfl h1 h2 oN) [1,4] [(13,vi (gd g k))] ?_;refine tD ?_;subst h;exact (endQ []).1
theorem zdF (k:Int) (o:zx) (res:Int) (fin:zx)
 (h:(∃ r0:Int,zcc o.G k r0∧(ck (decide (r0 < 0)) (res=(-1)∧fin=o) (∃ (a:Int→Prop) (b:Int→Nat),a 0∧(∀ (i:Int),a i→(ck (decide (i < (↑(List.length o.L):Int))) ((0≤i)∧(Int.toNat i < List.length o.L)∧i < ↑(List.length o.L)∧(ck (gd o.L i == r0) (res=i∧fin=o) (a (w64 (i+1))∧b (w64 (i+1)) < b i))) (((List.length o.L+1) * 8≤2 ^ 47)∧((List.length o.State+1) * 8≤2 ^ 47)∧(res=(w64 ((↑(List.length o.L+1):Int) - 1))∧fin=({ G:=o.G,L:=o.L++[r0],State:=o.State++[k] }))))))))):zaD k o res fin:=by
 have kk:=cfOk [33] 60;refine fE kk Tryz.func74 [(1,.ptr 3 0),(3,.agg [vL za o.G,oL 3 za o.L,oL 3 za o.State]),(4,vi k)] ?_;refine sO oN [] [] ?_;obtain ⟨r0,t,h⟩:=h;refine sO (ca t oN) [] [(16,vi r0)] ?_;refine qD ?_;refine sO oN [] [(43,vB (decide (r0 < 0)))] ?_;refine cH 14 h (fun s h=>?_) (fun s h=>?_)
 ·refine sO oN [1,4,16,43] [(13,vi (-1))] ?_;refine tD ?_;obtain ⟨j,f⟩:=h;subst res fin;exact (endQ []).1
 ·refine kW [43] ?_;refine qD ?_;refine sO oN [] [(19,vi 0)] ?_;refine bD (id:=0) ?_;obtain ⟨a,b,c,d⟩:=h;refine loE [] (fun i=>[(19,vi i)]) a b 0 [] c ?_;rintro i hi;have h:=d i hi;refine qD ?_;refine sV oN [] (List.length (List.map za o.L)) (List.length o.L) (fun q=>[(64,vB (decide (i < (↑(q):Int))))]) ?_;refine cH 21 h (fun e h=>?_) (fun e h=>?_)
  ·refine kW [64] ?_;refine qD ?_;refine bD (id:=1) ?_;obtain ⟨g,h⟩:=h;obtain ⟨n,h⟩:=h;obtain ⟨r,h⟩:=h;refine sO (nd g (nd (show Int.toNat i < List.length (List.map za o.L) from by simpa only [nm] using n) (el (show (List.map za o.L)[((0:Nat)+Int.toNat i:Nat)]?=some (fi (gd o.L i)) from by have:=zbu za o.L i _ rfl g r;simpa only [nm,enq,za] using this) oN))) [] [(97,vB (gd o.L i == r0))] ?_;refine cH 32 h (fun l h=>?_) (fun l h=>?_)
   ·refine sO oN [1,4,16,19,97] [(13,vi i)] ?_;refine tD ?_;obtain ⟨j,f⟩:=h;subst res fin;exact (endQ []).1
   ·refine kW [97] ?_;refine rO oN [] [(19,vi (w64 (i+1)))] ?_;exact lD (w64 (i+1)) [] h
  ·refine xD (i:=0) ?_;show Sem _ _ _ _ _;refine wkD [19,64] ?_;obtain ⟨m,h⟩:=h;refine sV (apo za o.L m oN) [16] (show AV from .own 3 (List.map za o.L++[FV.pv (Value.int IntKind.i64 r0)])) (oL 3 za (o.L++[r0])) (fun q=>[(3,.agg [vL za o.G,q,oL 3 za o.State])]) ?_;obtain ⟨p,h⟩:=h;refine sV (apo za o.State p oN) [4] (show AV from .own 3 (List.map za o.State++[FV.pv (Value.int IntKind.i64 k)])) (oL 3 za (o.State++[k])) (fun q=>[(3,.agg [vL za o.G,oL 3 za (o.L++[r0]),q])]) ?_;refine sOE oN [1] [(13,vi (w64 ((↑(List.length (List.map za (o.L++[r0]))):Int) - 1)))] [(13,vi (w64 ((↑(List.length o.L+1):Int) - 1)))] ?_;refine tD ?_;obtain ⟨j,f⟩:=h;subst res fin;exact (endQ []).1
theorem zfx (c:(List (List Int))) (a:Int) (b:Int) (res:Bool)
 (h:(∃ (d:Int→Prop) (e:Int→Nat),d 0∧(∀ (i:Int),d i→(ck (decide (i < (↑(List.length c):Int))) ((0≤i)∧i < ↑(List.length c)∧(0≤a)∧a < ↑(List.length (gd c i))∧(0≤i)∧i < ↑(List.length c)∧(0≤b)∧b < ↑(List.length (gd c i))∧(ck (gd (gd c i) a != gd (gd c i) b) (res=false) (d (w64 (i+1))∧e (w64 (i+1)) < e i))) (res=true))))):zbZ c a b res:=by
 have kk:=cfOk [] 29;refine fE kk Tryz.func75 [(1,vL zj c),(4,vi a),(7,vi b)] ?_;refine sO oN [] [] ?_;refine qD ?_;refine sO oN [] [(22,vi 0)] ?_;refine bD (id:=0) ?_;obtain ⟨d,e,f,g⟩:=h;refine loE [] (fun i=>[(22,vi i)]) d e 0 [] f ?_;rintro i hi;have h:=g i hi;refine qD ?_;refine sV oN [] (List.length (List.map zj c)) (List.length c) (fun q=>[(34,vB (decide (i < (↑(q):Int))))]) ?_;refine cH 11 h (fun k h=>?_) (fun k h=>?_)
 ·refine kW [34] ?_;refine qD ?_;refine bD (id:=1) ?_;obtain ⟨r,h⟩:=h;obtain ⟨n,h⟩:=h;obtain ⟨s,h⟩:=h;obtain ⟨m,h⟩:=h;obtain ⟨l,h⟩:=h;obtain ⟨t,h⟩:=h;obtain ⟨p,h⟩:=h;obtain ⟨o,h⟩:=h;refine sO (xo zj rfl r n (xo za rfl s m (xo zj rfl l t (xo za rfl p o oN)))) [] [(85,vB (gd (gd c i) a != gd (gd c i) b))] ?_;refine cH 28 h (fun j h=>?_) (fun j h=>?_)
  ·refine sO oN [1,4,7,22,85] [(19,vB false)] ?_;refine tD ?_;subst h;exact (endQ []).1
  ·refine kW [85] ?_;refine rO oN [] [(22,vi (w64 (i+1)))] ?_;exact lD (w64 (i+1)) [] h
 ·refine xD (i:=0) ?_;show Sem _ _ _ _ _;refine wkD [1,4,7,22,34] ?_;refine sO oN [] [(19,vB true)] ?_;refine tD ?_;subst h;exact (endQ []).1
end Go.Ev
namespace Go.Ev
open Go Go.Proofs
set_option maxRecDepth 8000
set_option maxHeartbeats 1000000
theorem zf8 (d:zZ) (res:zZ) (res_1:Int)
 (h:(∃ r0:Bool,zcd d r0∧(ck (!r0) (res=({ Map:=[],Rows:=[],Accept:=[],Start:=[] })∧res_1=1) (∃ a2:List Int,zbY d a2∧(∃ (a1:List Int→Int→List Int→List Int→List Int→Prop) (b1:List Int→Int→List Int→List Int→List Int→Nat),a1 ([]) 0 a2 ([]) ([])∧(∀ (g:List Int) (i:Int) (J:List Int) (I:List Int) (n:List Int),a1 g i J I n→(ck (decide (i < (↑(List.length d.Start):Int))) ((0≤i)∧i < ↑(List.length d.Start)∧(∃ a0:Int,∃ Q:zx,zaD (gd d.Start i) ({ G:=J,L:=I,State:=n }) a0 Q∧((List.length g+1) * 8≤2 ^ 47)∧(a1 (g++[a0]) (w64 (i+1)) Q.G Q.L Q.State∧b1 (g++[a0]) (w64 (i+1)) Q.G Q.L Q.State < b1 g i J I n))) (∃ (R:List Int→List (List Int)→Int→List Int→List Int→List Int→Prop) (a6:List Int→List (List Int)→Int→List Int→List Int→List Int→Nat),R ([]) ([]) 0 J I n∧(∀ (f:List Int) (r:List (List Int)) (s:Int) (D:List Int) (A:List Int) (k:List Int),R f r s D A k→(ck (decide (s < (↑(List.length k):Int))) (∃ (V:List Int→Int→List Int→List Int→List Int→Prop) (a4:List Int→Int→List Int→List Int→List Int→Nat),V ([]) 0 D A k∧(∀ (o:List Int) (M:Int) (v:List Int) (u:List Int) (c:List Int),V o M v u c→(ck (decide (M < 256)) ((0≤s)∧(Int.toNat s < List.length c)∧s < ↑(List.length c)∧(0≤gd c s)∧gd c s < ↑(List.length d.Rows)∧(0≤M)∧M < ↑(List.length d.Map)∧(0≤gd d.Map M)∧gd d.Map M < ↑(List.length (gd d.Rows (gd c s)))∧(∃ O:Int,∃ F:zx,zaD (gd (gd d.Rows (gd c s)) (gd d.Map M)) ({ G:=v,L:=u,State:=c }) O F∧((List.length o+1) * 8≤2 ^ 47)∧(V (o++[O]) (w64 (M+1)) F.G F.L F.State∧a4 (o++[O]) (w64 (M+1)) F.G F.L F.State < a4 o M v u c))) (((List.length r+1) * 24≤2 ^ 47)∧(0≤s)∧(Int.toNat s < List.length c)∧s < ↑(List.length c)∧(0≤gd c s)∧gd c s < ↑(List.length d.Accept)∧((List.length f+1) * 8≤2 ^ 47)∧(R (f++[gd d.Accept (gd c s)]) (r++[o]) (w64 (s+1)) v u c∧a6 (f++[gd d.Accept (gd c s)]) (r++[o]) (w64 (s+1)) v u c < a6 f r s D A k))))) (∃ (N:List Int→List Int→Int→Prop) (Y:List Int→List Int→Int→Nat),N ([]) ([]) 0∧(∀ (e:List Int) (a:List Int) (B:Int),N e a B→(ck (decide (B < 256)) (∃ (S:Int→Prop) (a8:Int→Nat),S 0∧(∀ (l:Int),S l→(ck (decide (l < (↑(List.length (List.map za a)):Int))) (((decide (l < (↑(List.length (List.map za a)):Int)))=true→(0≤l))∧((decide (l < (↑(List.length (List.map za a)):Int)))=true→(Int.toNat l < List.length a))∧((decide (l < (↑(List.length (List.map za a)):Int)))=true→l < ↑(List.length a))∧(∃ a5:Bool,zbZ r (gd a l) B a5∧(ck (!a5) (S (w64 (l+1))∧a8 (w64 (l+1)) < a8 l) (∃ b0:List Int→Prop,(∀ (w:List Int),b0 w→((List.length e+1) * 8≤2 ^ 47)∧(N (e++[l]) w (w64 (B+1))∧Y (e++[l]) w (w64 (B+1)) < Y e a B))∧(ck (l == (↑(List.length a):Int)) (((List.length a+1) * 8≤2 ^ 47)∧b0 (a++[B])) (b0 a)))))) (∃ a9:List Int→Prop,(∀ (y:List Int),a9 y→((List.length e+1) * 8≤2 ^ 47)∧(N (e++[l]) y (w64 (B+1))∧Y (e++[l]) y (w64 (B+1)) < Y e a B))∧(ck (l == (↑(List.length a):Int)) (((List.length a+1) * 8≤2 ^ 47)∧a9 (a++[B])) (a9 a)))))) (∃ (U:List (List Int)→Int→Prop) (a3:List (List Int)→Int→Nat),U ([]) 0∧(∀ (j:List (List Int)) (H:Int),U j H→(ck (decide (H < (↑(List.length r):Int))) (∃ (X:List Int→Int→Prop) (a7:List Int→Int→Nat),X ([]) 0∧(∀ (p:List Int) (m:Int),X p m→(ck (decide (m < (↑(List.length a):Int))) ((0≤H)∧H < ↑(List.length r)∧(0≤m)∧(Int.toNat m < List.length a)∧m < ↑(List.length a)∧(0≤gd a m)∧gd a m < ↑(List.length (gd r H))∧((List.length p+1) * 8≤2 ^ 47)∧(X (p++[gd (gd r H) (gd a m)]) (w64 (m+1))∧a7 (p++[gd (gd r H) (gd a m)]) (w64 (m+1)) < a7 p m)) (((List.length j+1) * 24≤2 ^ 47)∧(U (j++[p]) (w64 (H+1))∧a3 (j++[p]) (w64 (H+1)) < a3 j H))))) (res=({ Map:=e,Rows:=j,Accept:=f,Start:=g })∧res_1=0))))))))))))))))):zbB d res res_1:=by
 have kk:=cfOk [167] 168;refine fE kk Tryz.func47 [(1,zar d)] ?_;refine sO oN [1] [(4,.ptr 8 0),(7,.ptr 14 0),(8,zar d),(14,.agg [oL 3 za ([]),oL 27 zj ([]),oL 3 za ([]),oL 3 za ([])])] ?_;refine qD ?_;obtain ⟨r0,i2,h⟩:=h;refine sO (ca i2 oN) [] [(61,vB (!r0))] ?_;refine cH 20 h (fun h6 h=>?_) (fun h6 h=>?_)
 ·refine sO oN [4,8,61] [(10,vi 1),(14,.agg [oL 3 za ([]),oL 27 zj ([]),oL 3 za ([]),oL 3 za ([])])] ?_;refine tD ?_;obtain ⟨i0,h8⟩:=h;subst res res_1;exact (endD [] (.tup [.agg [.f (FV.sl (List.take (List.length (List.map za [])) (List.drop 0 (List.map za [])))),.f (FV.sl (List.take (List.length (List.map zj [])) (List.drop 0 (List.map zj [])))),.f (FV.sl (List.take (List.length (List.map za [])) (List.drop 0 (List.map za [])))),.f (FV.sl (List.take (List.length (List.map za [])) (List.drop 0 (List.map za []))))],vi 1]) []).1
 ·refine kW [61] ?_;obtain ⟨a2,h9,h⟩:=h;refine sO (ca h9 oN) [] [(13,vL za a2)] ?_;refine sO oN [13] [(16,.ptr 158 0),(158,.agg [vL za a2,oL 3 za ([]),oL 3 za ([])])] ?_;refine sO oN [] [(19,.ptr 38 0),(38,.agg [oL 3 za ([]),oL 27 zj ([]),oL 3 za ([]),oL 3 za ([])])] ?_;refine qD ?_;refine sO oN [] [(22,vi 0)] ?_;refine bD (id:=0) ?_;obtain ⟨a1,b1,b9,c6⟩:=h;refine loE [] (u5 fun g i J I n=>[(22,vi i),(38,.agg [oL 3 za ([]),oL 27 zj ([]),oL 3 za ([]),oL 3 za g]),(158,.agg [vL za J,oL 3 za I,oL 3 za n])]) (u5 a1) (u5 b1) (([]),0,a2,([]),([])) [] b9 ?_;rintro ⟨g,i,J,I,n⟩ hi;have h:=c6 g i J I n hi;refine qD ?_;refine sV oN [] (List.length (List.map za d.Start)) (List.length d.Start) (fun q=>[(94,vB (decide (i < (↑(q):Int))))]) ?_;refine cH 31 h (fun f4 h=>?_) (fun f4 h=>?_)
  ·refine kW [94] ?_;refine qD ?_;refine bD (id:=1) ?_;obtain ⟨h7,h⟩:=h;obtain ⟨i1,h⟩:=h;obtain ⟨a0,Q,f9,h⟩:=h;obtain ⟨h5,h⟩:=h;refine rV (xo za rfl h7 i1 (ca f9 (apo za g h5 oN))) [] (show AV from .own 3 (List.map za g++[FV.pv (Value.int IntKind.i64 a0)])) (oL 3 za (g++[a0])) (fun q=>[(38,.agg [oL 3 za ([]),oL 27 zj ([]),oL 3 za ([]),q]),(158,.agg [vL za Q.G,oL 3 za Q.L,oL 3 za Q.State])]) ?_;show Sem _ _ _ _ _;refine rO oN [] [(22,vi (w64 (i+1)))] ?_;exact lD ((g++[a0]),(w64 (i+1)),Q.G,Q.L,Q.State) [] h
  ·refine xD (i:=0) ?_;show Sem _ _ _ _ _;refine wkD [22,94] ?_;refine sO oN [] [(25,oL 27 zj ([]))] ?_;refine qD ?_;refine sO oN [] [(28,vi 0)] ?_;refine bD (id:=2) ?_;obtain ⟨R,a6,b6,c2⟩:=h;refine loE [] (u6 fun f r s D A k=>[(25,oL 27 zj r),(28,vi s),(38,.agg [oL 3 za ([]),oL 27 zj ([]),oL 3 za f,oL 3 za g]),(158,.agg [vL za D,oL 3 za A,oL 3 za k])]) (u6 R) (u6 a6) (([]),([]),0,J,I,n) [] b6 ?_;rintro ⟨f,r,s,D,A,k⟩ hi;have h:=c2 f r s D A k hi;refine qD ?_;refine sV oN [] (List.length (List.map za k)) (List.length k) (fun q=>[(157,vB (decide (s < (↑(q):Int))))]) ?_;refine cH 52 h (fun d9 h=>?_) (fun d9 h=>?_)
   ·refine kW [157] ?_;refine qD ?_;refine bD (id:=3) ?_;refine sO oN [] [(31,oL 3 za ([]))] ?_;refine qD ?_;refine sO oN [] [(34,vi 0)] ?_;refine bD (id:=4) ?_;obtain ⟨V,a4,b5,c4⟩:=h;refine loE [] (u5 fun o M v u c=>[(31,oL 3 za o),(34,vi M),(158,.agg [vL za v,oL 3 za u,oL 3 za c])]) (u5 V) (u5 a4) (([]),0,D,A,k) [] b5 ?_;rintro ⟨o,M,v,u,c⟩ hi;have h:=c4 o M v u c hi;refine qD ?_;refine sO oN [] [(169,vB (decide (M < 256)))] ?_;refine cH 56 h (fun d5 h=>?_) (fun d5 h=>?_)
    ·refine kW [169] ?_;refine qD ?_;refine bD (id:=5) ?_;obtain ⟨c8,h⟩:=h;obtain ⟨f5,h⟩:=h;obtain ⟨g3,h⟩:=h;obtain ⟨f3,h⟩:=h;obtain ⟨h4,h⟩:=h;obtain ⟨g7,h⟩:=h;obtain ⟨h2,h⟩:=h;obtain ⟨e7,h⟩:=h;obtain ⟨f8,h⟩:=h;obtain ⟨O,F,e0,h⟩:=h;obtain ⟨e6,h⟩:=h;refine rV (nd c8 (nd (show Int.toNat s < List.length (List.map za c) from by simpa only [nm] using f5) (el (show (List.map za c)[((0:Nat)+Int.toNat s:Nat)]?=some (fi (gd c s)) from by have:=zbu za c s _ rfl c8 g3;simpa only [nm,enq,za] using this) (xo zj rfl f3 h4 (xo za rfl g7 h2 (xo za rfl e7 f8 (ca e0 (apo za o e6 oN)))))))) [] (show AV from .own 3 (List.map za o++[FV.pv (Value.int IntKind.i64 O)])) (oL 3 za (o++[O])) (fun q=>[(31,q),(158,.agg [vL za F.G,oL 3 za F.L,oL 3 za F.State])]) ?_;show Sem _ _ _ _ _;refine rO oN [] [(34,vi (w64 (M+1)))] ?_;exact lD ((o++[O]),(w64 (M+1)),F.G,F.L,F.State) [] h
    ·refine xD (i:=4) ?_;show Sem _ _ _ _ _;refine wkD [34,169] ?_;obtain ⟨f6,h⟩:=h;refine sOE (apo zj r f6 oN) [31] [(25,.own 27 (List.map zj r++[FV.sl (List.take (List.length (List.map za o)) (List.drop 0 (List.map za o)))]))] [(25,oL 27 zj (r++[o]))] ?_;obtain ⟨d0,h⟩:=h;obtain ⟨f2,h⟩:=h;obtain ⟨f0,h⟩:=h;obtain ⟨h3,h⟩:=h;obtain ⟨e8,h⟩:=h;obtain ⟨f1,h⟩:=h;refine rV (nd d0 (nd (show Int.toNat s < List.length (List.map za c) from by simpa only [nm] using f2) (el (show (List.map za c)[((0:Nat)+Int.toNat s:Nat)]?=some (fi (gd c s)) from by have:=zbu za c s _ rfl d0 f0;simpa only [nm,enq,za] using this) (xo za rfl h3 e8 (apo za f f1 oN))))) [] (show AV from .own 3 (List.map za f++[FV.pv (Value.int IntKind.i64 (gd d.Accept (gd c s)))])) (oL 3 za (f++[gd d.Accept (gd c s)])) (fun q=>[(38,.agg [oL 3 za ([]),oL 27 zj ([]),q,oL 3 za g])]) ?_;show Sem _ _ _ _ _;refine rO oN [] [(28,vi (w64 (s+1)))] ?_;exact lD ((f++[gd d.Accept (gd c s)]),(r++[o]),(w64 (s+1)),v,u,c) [] h
   ·refine xD (i:=2) ?_;show Sem _ _ _ _ _;refine wkD [4,8,16,28,157,158] ?_;refine sO oN [] [(37,oL 3 za ([]))] ?_;refine qD ?_;refine sO oN [] [(40,vi 0)] ?_;refine bD (id:=6) ?_;obtain ⟨N,Y,b3,c3⟩:=h;refine loE [] (u3 fun e a B=>[(25,vL zj r),(37,oL 3 za a),(38,.agg [oL 3 za e,oL 27 zj ([]),oL 3 za f,oL 3 za g]),(40,vi B)]) (u3 N) (u3 Y) (([]),([]),0) [(25,0)] b3 ?_;rintro ⟨e,a,B⟩ hi;have h:=c3 e a B hi;refine qD ?_;refine sO oN [] [(310,vB (decide (B < 256)))] ?_;refine cH 103 h (fun d1 h=>?_) (fun d1 h=>?_)
    ·refine kW [310] ?_;refine qD ?_;refine bD (id:=7) ?_;refine sO oN [] [(43,vi 0)] ?_;refine qD ?_;refine bD (id:=8) ?_;obtain ⟨S,a8,b2,b8⟩:=h;refine loE [] (fun l=>[(43,vi l)]) S a8 0 [] b2 ?_;rintro l hi;have h:=b8 l hi;refine qD ?_;rcases eft (decide (l < (↑(List.length (List.map za a)):Int))) with E | E
     ·have h:=h.1 E;obtain ⟨c7,h⟩:=h;obtain ⟨e3,h⟩:=h;obtain ⟨g5,h⟩:=h;obtain ⟨a5,d6,h⟩:=h;refine sO (g1 E 1111 (nd (c7 E) (nd (show Int.toNat l < List.length (List.map za a) from by simpa only [nm] using (e3 E)) (g1 E 1 (el (show (List.map za a)[((0:Nat)+Int.toNat l:Nat)]?=some (fi (gd a l)) from by have:=zbu za a l _ rfl (c7 E) (g5 E);simpa only [nm,enq,za] using this) (g1 E 11 (ca d6 (g1 E 13 oN)))))))) [] [(358,vB (!a5))] ?_;refine cH 119 h (fun d7 h=>?_) (fun d7 h=>?_)
      ·refine kW [358] ?_;refine bD (id:=9) ?_;refine rO oN [] [(43,vi (w64 (l+1)))] ?_;exact lD (w64 (l+1)) [] h
      ·refine xD (i:=8) ?_;show Sem _ _ _ _ _;refine wkD [358] ?_;obtain ⟨b0,d8,h⟩:=h;refine sjE b0 [] (fun w=>[(37,oL 3 za w)]) ?_ ?_
       ·rintro w hj;have h:=d8 w hj;obtain ⟨g9,h⟩:=h;refine rV (apo za e g9 oN) [43] (show AV from .own 3 (List.map za e++[FV.pv (Value.int IntKind.i64 l)])) (oL 3 za (e++[l])) (fun q=>[(38,.agg [q,oL 27 zj ([]),oL 3 za f,oL 3 za g])]) ?_;show Sem _ _ _ _ _;refine rO oN [] [(40,vi (w64 (B+1)))] ?_;exact lD ((e++[l]),w,(w64 (B+1))) [] h
       ·refine sV oN [] (List.length (List.map za a)) (List.length a) (fun q=>[(376,vB (l == (↑(q):Int)))]) ?_;refine cH 125 h (fun e2 h=>?_) (fun e2 h=>?_)
        ·obtain ⟨h0,h⟩:=h;refine rOE (apo za a h0 oN) [376] [(37,.own 3 (List.map za a++[FV.pv (Value.int IntKind.i64 B)]))] [(37,oL 3 za (a++[B]))] ?_;exact jD (a++[B]) [] h
        ·refine kD ?_;exact jD a [] h
     ·have h:=h.2 E;refine sO (g1 E 111111113 oN) [] [(358,vB false)] ?_;refine cD (t:=119) (b:=false) (fun c0=>?_) (fun c0=>?_)
      ·cases c0
      ·refine xD (i:=8) ?_;show Sem _ _ _ _ _;refine wkD [358] ?_;obtain ⟨a9,d3,h⟩:=h;refine sjE a9 [] (fun y=>[(37,oL 3 za y)]) ?_ ?_
       ·rintro y hj;have h:=d3 y hj;obtain ⟨g6,h⟩:=h;refine rV (apo za e g6 oN) [43] (show AV from .own 3 (List.map za e++[FV.pv (Value.int IntKind.i64 l)])) (oL 3 za (e++[l])) (fun q=>[(38,.agg [q,oL 27 zj ([]),oL 3 za f,oL 3 za g])]) ?_;show Sem _ _ _ _ _;refine rO oN [] [(40,vi (w64 (B+1)))] ?_;exact lD ((e++[l]),y,(w64 (B+1))) [] h
       ·refine sV oN [] (List.length (List.map za a)) (List.length a) (fun q=>[(376,vB (l == (↑(q):Int)))]) ?_;refine cH 125 h (fun d4 h=>?_) (fun d4 h=>?_)
        ·obtain ⟨e9,h⟩:=h;refine rOE (apo za a e9 oN) [376] [(37,.own 3 (List.map za a++[FV.pv (Value.int IntKind.i64 B)]))] [(37,oL 3 za (a++[B]))] ?_;exact jD (a++[B]) [] h
        ·refine kD ?_;exact jD a [] h
    ·refine xD (i:=6) ?_;show Sem _ _ _ _ _;refine wkD [40,310] ?_;refine qD ?_;refine sO oN [] [(46,vi 0)] ?_;refine bD (id:=10) ?_;obtain ⟨U,a3,b4,c1⟩:=h;refine loE [] (u2 fun j H=>[(38,.agg [oL 3 za e,oL 27 zj j,oL 3 za f,oL 3 za g]),(46,vi H)]) (u2 U) (u2 a3) (([]),0) [] b4 ?_;rintro ⟨j,H⟩ hi;have h:=c1 j H hi;refine qD ?_;refine sV oN [] (List.length (List.map zj r)) (List.length r) (fun q=>[(418,vB (decide (H < (↑(q):Int))))]) ?_;refine cH 139 h (fun d2 h=>?_) (fun d2 h=>?_)
     ·refine kW [418] ?_;refine qD ?_;refine bD (id:=11) ?_;refine sO oN [] [(49,oL 3 za ([]))] ?_;refine qD ?_;refine sO oN [] [(52,vi 0)] ?_;refine bD (id:=12) ?_;obtain ⟨X,a7,b7,c5⟩:=h;refine loE [] (u2 fun p m=>[(49,oL 3 za p),(52,vi m)]) (u2 X) (u2 a7) (([]),0) [] b7 ?_;rintro ⟨p,m⟩ hi;have h:=c5 p m hi;refine qD ?_;refine sV oN [] (List.length (List.map za a)) (List.length a) (fun q=>[(436,vB (decide (m < (↑(q):Int))))]) ?_;refine cH 145 h (fun e1 h=>?_) (fun e1 h=>?_)
      ·refine kW [436] ?_;refine qD ?_;refine bD (id:=13) ?_;obtain ⟨g2,h⟩:=h;obtain ⟨e4,h⟩:=h;obtain ⟨c9,h⟩:=h;obtain ⟨g0,h⟩:=h;obtain ⟨e5,h⟩:=h;obtain ⟨f7,h⟩:=h;obtain ⟨g4,h⟩:=h;obtain ⟨g8,h⟩:=h;refine rOE (xo zj rfl g2 e4 (nd c9 (nd (show Int.toNat m < List.length (List.map za a) from by simpa only [nm] using g0) (el (show (List.map za a)[((0:Nat)+Int.toNat m:Nat)]?=some (fi (gd a m)) from by have:=zbu za a m _ rfl c9 e5;simpa only [nm,enq,za] using this) (xo za rfl f7 g4 (apo za p g8 oN)))))) [] [(49,.own 3 (List.map za p++[FV.pv (Value.int IntKind.i64 (gd (gd r H) (gd a m)))]))] [(49,oL 3 za (p++[gd (gd r H) (gd a m)]))] ?_;show Sem _ _ _ _ _;refine rO oN [] [(52,vi (w64 (m+1)))] ?_;exact lD ((p++[gd (gd r H) (gd a m)]),(w64 (m+1))) [] h
      ·refine xD (i:=12) ?_;show Sem _ _ _ _ _;refine wkD [52,436] ?_;obtain ⟨h1,h⟩:=h;refine rV (apo zj j h1 oN) [49] (show AV from .own 27 (List.map zj j++[FV.sl (List.take (List.length (List.map za p)) (List.drop (0:Nat) (List.map za p)))])) (oL 27 zj (j++[p])) (fun q=>[(38,.agg [oL 3 za e,q,oL 3 za f,oL 3 za g])]) ?_;show Sem _ _ _ _ _;refine rO oN [] [(46,vi (w64 (H+1)))] ?_;exact lD ((j++[p]),(w64 (H+1))) [] h
     ·refine xD (i:=10) ?_;show Sem _ _ _ _ _;refine wkD [25,37,46,418] ?_;refine sO (nd (show (0:Nat)=(0:Nat)∧List.length (List.map za e)=List.length (List.map za e) from ⟨rfl,rfl⟩) (nd (show (0:Nat)=(0:Nat)∧List.length (List.map zj j)=List.length (List.map zj j) from ⟨rfl,rfl⟩) (nd (show (0:Nat)=(0:Nat)∧List.length (List.map za f)=List.length (List.map za f) from ⟨rfl,rfl⟩) (nd (show (0:Nat)=(0:Nat)∧List.length (List.map za g)=List.length (List.map za g) from ⟨rfl,rfl⟩) oN)))) [19,38] [(10,vi 0),(14,.agg [oL 3 za e,oL 27 zj j,oL 3 za f,oL 3 za g])] ?_;refine tD ?_;obtain ⟨i0,h8⟩:=h;subst res res_1;exact (endD [] (.tup [.agg [.f (FV.sl (List.take (List.length (List.map za e)) (List.drop 0 (List.map za e)))),.f (FV.sl (List.take (List.length (List.map zj j)) (List.drop 0 (List.map zj j)))),.f (FV.sl (List.take (List.length (List.map za f)) (List.drop 0 (List.map za f)))),.f (FV.sl (List.take (List.length (List.map za g)) (List.drop 0 (List.map za g))))],vi 0]) []).1
theorem zfw (s0:zr) (res:zZ) (res_1:Int)
 (h:(∃ r0:zbT,∃ b:Int,zdC s0 r0 b∧(ck (b != 0) (res=({ Map:=[],Rows:=[],Accept:=[],Start:=[] })∧res_1=b) (∃ d:zZ,∃ a:Int,zdM r0 d a∧(ck (a != 0) (res=({ Map:=[],Rows:=[],Accept:=[],Start:=[] })∧res_1=a) (∃ e:zZ,∃ c:Int,zbB d e c∧(res=e∧res_1=c))))))):zbn s0 res res_1:=by
 have kk:=cfOk [16,25] 30;refine fE kk Tryz.func23 [(1,zag s0)] ?_;refine sO oN [1] [(4,.ptr 8 0),(7,.ptr 14 0),(8,zag s0),(14,.agg [oL 3 za ([]),oL 27 zj ([]),oL 3 za ([]),oL 3 za ([])])] ?_;obtain ⟨r0,b,j,h⟩:=h;refine sO (ca j oN) [4,8] [(13,.ptr 26 0),(16,vi b),(26,zcJ r0)] ?_;refine qD ?_;refine sO oN [] [(43,vB (b != 0))] ?_;refine cH 14 h (fun i h=>?_) (fun i h=>?_)
 ·refine sO oN [13,16,26,43] [(10,vi b),(14,.agg [oL 3 za ([]),oL 27 zj ([]),oL 3 za ([]),oL 3 za ([])])] ?_;refine tD ?_;obtain ⟨f,g⟩:=h;subst res res_1;exact (endD [] (.tup [.agg [.f (FV.sl (List.take (List.length (List.map za [])) (List.drop 0 (List.map za [])))),.f (FV.sl (List.take (List.length (List.map zj [])) (List.drop 0 (List.map zj [])))),.f (FV.sl (List.take (List.length (List.map za [])) (List.drop 0 (List.map za [])))),.f (FV.sl (List.take (List.length (List.map za [])) (List.drop 0 (List.map za []))))],vi b]) []).1
 ·refine kW [16,43] ?_;obtain ⟨d,a,k,h⟩:=h;refine sO (ca k oN) [13,26] [(19,.ptr 38 0),(22,vi a),(38,zar d)] ?_;refine qD ?_;refine sO oN [] [(70,vB (a != 0))] ?_;refine cH 23 h (fun m h=>?_) (fun m h=>?_)
  ·refine sO oN [19,22,38,70] [(10,vi a),(14,.agg [oL 3 za ([]),oL 27 zj ([]),oL 3 za ([]),oL 3 za ([])])] ?_;refine tD ?_;obtain ⟨f,g⟩:=h;subst res res_1;exact (endD [] (.tup [.agg [.f (FV.sl (List.take (List.length (List.map za [])) (List.drop 0 (List.map za [])))),.f (FV.sl (List.take (List.length (List.map zj [])) (List.drop 0 (List.map zj [])))),.f (FV.sl (List.take (List.length (List.map za [])) (List.drop 0 (List.map za [])))),.f (FV.sl (List.take (List.length (List.map za [])) (List.drop 0 (List.map za []))))],vi a]) []).1
  ·refine kW [22,70] ?_;obtain ⟨e,c,l,h⟩:=h;refine sO (ca l oN) [19,38] [(10,vi c),(14,zar e)] ?_;refine tD ?_;obtain ⟨f,g⟩:=h;subst res res_1;exact (endQ []).1
theorem zgY (s0:zr) (res:zd) (res_1:Bool)
 (h:(∃ r0:zZ,∃ m:Int,zbn s0 r0 m∧(ck (m != 0 || decide ((↑(List.length r0.Rows):Int) > 200)) (res=({ Spec:={ Conds:=[],Default:=false,Rules:=[] },Tables:={ Map:=[],Width:=0,Base:=[],Default:=[],Next:=[],Check:=[],Accept:=[],Start:=[] } })∧res_1=false) (∃ j:Int,zav r0.Map j∧(∃ (l:List Int→List Int→List Int→List Int→Int→Prop) (n:List Int→List Int→List Int→List Int→Int→Nat),l ([]) ([]) ([]) ([]) 0∧(∀ (f:List Int) (a:List Int) (b:List Int) (e:List Int) (i:Int),l f a b e i→(ck (decide (i < (↑(List.length r0.Rows):Int))) (((List.length f+1) * 8≤2 ^ 47)∧((List.length a+1) * 8≤2 ^ 47)∧(∃ (k:List Int→List Int→Int→Prop) (o:List Int→List Int→Int→Nat),k b e 0∧(∀ (d:List Int) (c:List Int) (g:Int),k d c g→(0≤i)∧i < ↑(List.length r0.Rows)∧(ck (decide (g < (↑(List.length (gd r0.Rows i)):Int))) ((0≤i)∧i < ↑(List.length r0.Rows)∧(0≤g)∧g < ↑(List.length (gd r0.Rows i))∧((List.length d+1) * 8≤2 ^ 47)∧((List.length c+1) * 8≤2 ^ 47)∧(k (d++[gd (gd r0.Rows i) g]) (c++[i]) (w64 (g+1))∧o (d++[gd (gd r0.Rows i) g]) (c++[i]) (w64 (g+1)) < o d c g)) (l (f++[(↑(List.length b):Int)]) (a++[(-1:Int)]) d c (w64 (i+1))∧n (f++[(↑(List.length b):Int)]) (a++[(-1:Int)]) d c (w64 (i+1)) < n f a b e i))))) (res=({ Spec:=s0,Tables:={ Map:=r0.Map,Width:=j,Base:=f,Default:=a,Next:=b,Check:=e,Accept:=r0.Accept,Start:=r0.Start } })∧res_1=true)))))))):zbd s0 res res_1:=by
 have kk:=cfOk [] 85;refine fE kk Tryz.func9 [(1,zag s0)] ?_;refine sO oN [1] [(4,.ptr 8 0),(7,.ptr 14 0),(8,zag s0),(14,.agg [oL 81 zn ([]),vB false,oL 57 zg ([]),oL 3 za ([]),vi 0,oL 3 za ([]),oL 3 za ([]),oL 3 za ([]),oL 3 za ([]),oL 3 za ([]),oL 3 za ([])])] ?_;obtain ⟨r0,m,R,h⟩:=h;refine sO (ca R oN) [] [(13,.ptr 26 0),(16,vi m),(26,zar r0)] ?_;refine qD ?_;refine sM [16] [(64,vB (m != 0 || decide ((↑(List.length r0.Rows):Int) > 200)))] ?_ (fun y=>?_)
 ·refine cH 21 h (fun S h=>?_) (fun S h=>?_)
  ·refine sO oN [4,8,13,26,64] [(10,vB false),(14,.agg [oL 81 zn ([]),vB false,oL 57 zg ([]),oL 3 za ([]),vi 0,oL 3 za ([]),oL 3 za ([]),oL 3 za ([]),oL 3 za ([]),oL 3 za ([]),oL 3 za ([])])] ?_;refine tD ?_;obtain ⟨F,I⟩:=h;subst res res_1;exact (endD [] (.tup [.agg [.f (FV.sl (List.take (List.length (List.map zn [])) (List.drop 0 (List.map zn [])))),vB false,.f (FV.sl (List.take (List.length (List.map zg [])) (List.drop 0 (List.map zg [])))),.f (FV.sl (List.take (List.length (List.map za [])) (List.drop 0 (List.map za [])))),vi 0,.f (FV.sl (List.take (List.length (List.map za [])) (List.drop 0 (List.map za [])))),.f (FV.sl (List.take (List.length (List.map za [])) (List.drop 0 (List.map za [])))),.f (FV.sl (List.take (List.length (List.map za [])) (List.drop 0 (List.map za [])))),.f (FV.sl (List.take (List.length (List.map za [])) (List.drop 0 (List.map za [])))),.f (FV.sl (List.take (List.length (List.map za [])) (List.drop 0 (List.map za [])))),.f (FV.sl (List.take (List.length (List.map za [])) (List.drop 0 (List.map za []))))],vB false]) []).1
  ·refine kW [64] ?_;obtain ⟨j,A,h⟩:=h;refine sO (ca A oN) [] [(19,.ptr 38 0),(38,.agg [vL za r0.Map,vi j,oL 3 za ([]),oL 3 za ([]),oL 3 za ([]),oL 3 za ([]),vL za r0.Accept,vL za r0.Start])] ?_;refine qD ?_;refine sO oN [] [(22,vi 0)] ?_;refine bD (id:=0) ?_;obtain ⟨l,n,s,u⟩:=h;refine loE [] (u5 fun f a b e i=>[(22,vi i),(38,.agg [vL za r0.Map,vi j,oL 3 za f,oL 3 za a,oL 3 za b,oL 3 za e,vL za r0.Accept,vL za r0.Start])]) (u5 l) (u5 n) (([]),([]),([]),([]),0) [] s ?_;rintro ⟨f,a,b,e,i⟩ hi;have h:=u f a b e i hi;refine qD ?_;refine sV oN [] (List.length (List.map zj r0.Rows)) (List.length r0.Rows) (fun q=>[(112,vB (decide (i < (↑(q):Int))))]) ?_;refine cH 37 h (fun v h=>?_) (fun v h=>?_)
   ·refine kW [112] ?_;refine qD ?_;refine bD (id:=1) ?_;obtain ⟨N,h⟩:=h;refine sV (apo za f N oN) [] (show AV from .own 3 (List.map za f++[FV.pv (Value.int IntKind.i64 (↑(List.length (List.map za b)):Int))])) (oL 3 za (f++[(↑(List.length b):Int)])) (fun q=>[(38,.agg [vL za r0.Map,vi j,q,oL 3 za a,oL 3 za b,oL 3 za e,vL za r0.Accept,vL za r0.Start])]) ?_;obtain ⟨O,h⟩:=h;refine sV (apo za a O oN) [] (show AV from .own 3 (List.map za a++[FV.pv (Value.int IntKind.i64 (-1))])) (oL 3 za (a++[(-1:Int)])) (fun q=>[(38,.agg [vL za r0.Map,vi j,oL 3 za (f++[(↑(List.length b):Int)]),q,oL 3 za b,oL 3 za e,vL za r0.Accept,vL za r0.Start])]) ?_;refine sO oN [] [(25,vi 0)] ?_;refine bD (id:=2) ?_;obtain ⟨k,o,p,t⟩:=h;refine loE [] (u3 fun d c g=>[(25,vi g),(38,.agg [vL za r0.Map,vi j,oL 3 za (f++[(↑(List.length b):Int)]),oL 3 za (a++[(-1:Int)]),oL 3 za d,oL 3 za c,vL za r0.Accept,vL za r0.Start])]) (u3 k) (u3 o) (b,e,0) [] p ?_;rintro ⟨d,c,g⟩ hi;have h:=t d c g hi;refine qD ?_;obtain ⟨M,h⟩:=h;obtain ⟨E,h⟩:=h;refine sV (xo zj rfl M E oN) [] (List.length (List.map za (gd r0.Rows i))) (List.length (gd r0.Rows i)) (fun q=>[(181,vB (decide (g < (↑(q):Int))))]) ?_;refine cH 60 h (fun w h=>?_) (fun w h=>?_)
    ·refine kW [181] ?_;refine qD ?_;refine bD (id:=3) ?_;obtain ⟨U,h⟩:=h;obtain ⟨H,h⟩:=h;obtain ⟨B,h⟩:=h;obtain ⟨Q,h⟩:=h;obtain ⟨D,h⟩:=h;refine sV (xo zj rfl U H (xo za rfl B Q (apo za d D oN))) [] (show AV from .own 3 (List.map za d++[FV.pv (Value.int IntKind.i64 (gd (gd r0.Rows i) g))])) (oL 3 za (d++[gd (gd r0.Rows i) g])) (fun q=>[(38,.agg [vL za r0.Map,vi j,oL 3 za (f++[(↑(List.length b):Int)]),oL 3 za (a++[(-1:Int)]),q,oL 3 za c,vL za r0.Accept,vL za r0.Start])]) ?_;obtain ⟨J,h⟩:=h;refine rV (apo za c J oN) [] (show AV from .own 3 (List.map za c++[FV.pv (Value.int IntKind.i64 i)])) (oL 3 za (c++[i])) (fun q=>[(38,.agg [vL za r0.Map,vi j,oL 3 za (f++[(↑(List.length b):Int)]),oL 3 za (a++[(-1:Int)]),oL 3 za (d++[gd (gd r0.Rows i) g]),q,vL za r0.Accept,vL za r0.Start])]) ?_;show Sem _ _ _ _ _;refine rO oN [] [(25,vi (w64 (g+1)))] ?_;exact lD ((d++[gd (gd r0.Rows i) g]),(c++[i]),(w64 (g+1))) [] h
    ·refine xD (i:=2) ?_;show Sem _ _ _ _ _;refine wkD [25,181] ?_;refine rO oN [] [(22,vi (w64 (i+1)))] ?_;exact lD ((f++[(↑(List.length b):Int)]),(a++[(-1:Int)]),d,c,(w64 (i+1))) [] h
   ·refine xD (i:=0) ?_;show Sem _ _ _ _ _;refine wkD [13,22,26,112] ?_;refine sOE oN [4,8,19,38] [(10,vB true),(14,.agg [vL zn s0.Conds,vB s0.Default,vL zg s0.Rules,vL za r0.Map,vi j,.f (FV.sl (List.take (List.length (List.map za f)) (List.drop 0 (List.map za f)))),.f (FV.sl (List.take (List.length (List.map za a)) (List.drop 0 (List.map za a)))),.f (FV.sl (List.take (List.length (List.map za b)) (List.drop 0 (List.map za b)))),.f (FV.sl (List.take (List.length (List.map za e)) (List.drop 0 (List.map za e)))),vL za r0.Accept,vL za r0.Start])] [(10,vB true),(14,.agg [vL zn s0.Conds,vB s0.Default,vL zg s0.Rules,vL za r0.Map,vi j,vL za f,vL za a,vL za b,vL za e,vL za r0.Accept,vL za r0.Start])] ?_;refine tD ?_;obtain ⟨F,I⟩:=h;subst res res_1;exact (endQ []).1
 ·rcases eft (m != 0) with r | r
  ·refine sO (g1 r 22223 oN) [16] [(64,vB true)] ?_;exact Sem.cast (by try rw [r];kernel_rfl) y
  ·refine sV (g1 r 22223 oN) [16] (List.length (List.map zj r0.Rows)) (List.length r0.Rows) (fun q=>[(64,vB (decide ((↑(q):Int) > 200)))]) ?_;exact Sem.cast (by try rw [r];kernel_rfl) y
theorem zg2 (res:zd)
 (h:(∃ r0:zb,zau (97) (97) r0∧(∃ a:zd,∃ b:Bool,zbd ({ Conds:=[{ Name:={ data:=#[(73:UInt8),(78:UInt8),(73:UInt8),(84:UInt8),(73:UInt8),(65:UInt8),(76:UInt8)] },Exclusive:=false }],Default:=true,Rules:=[{ Conds:=[],All:=false,Bol:=false,Rx:={ Kind:=5,Set:={ e0:=0,e1:=0,e2:=0,e3:=0 },Lo:=0,Hi:=(-1:Int),Kids:=[{ Kind:=2,Set:=r0,Lo:=0,Hi:=0,Kids:=[] }] },Trail:={ Kind:=0,Set:={ e0:=0,e1:=0,e2:=0,e3:=0 },Lo:=0,Hi:=0,Kids:=[] },Eof:=false,Act:=1,To:=0 }] }) a b∧(res=a)))):zcz res:=by
 have kk:=cfOk [18] 19;refine fE kk Tryz.func27 [] ?_;refine sO oN [] [(1,.ptr 2 0),(2,.agg [oL 81 zn ([]),vB false,oL 57 zg ([]),oL 3 za ([]),vi 0,oL 3 za ([]),oL 3 za ([]),oL 3 za ([]),oL 3 za ([]),oL 3 za ([]),oL 3 za ([])])] ?_;obtain ⟨r0,c,h⟩:=h;refine sV (ca c oN) [] (show AV from .f (FV.sl ([FV.agg [FV.pv (Value.int IntKind.i64 (2)),FV.pv (Value.int IntKind.u64 r0.e0),FV.pv (Value.int IntKind.u64 r0.e1),FV.pv (Value.int IntKind.u64 r0.e2),FV.pv (Value.int IntKind.u64 r0.e3),FV.pv (Value.int IntKind.i64 (0)),FV.pv (Value.int IntKind.i64 (0)),FV.sl (List.take (List.length ([]:List FV)) (List.drop (0:Nat) []))]]))) (vL zc ([{ Kind:=2,Set:=r0,Lo:=0,Hi:=0,Kids:=[] }])) (fun q=>[(4,.ptr 8 0),(8,.agg [vi 5,vI .u64 0,vI .u64 0,vI .u64 0,vI .u64 0,vi 0,vi (-1),q])]) ?_;obtain ⟨a,b,d,h⟩:=h;refine sO (ca (Eq.mp (by unfold zbd;(try simp only [List.drop_zero,List.take_length]);first | done | simp only [nm,enq]:zbd ({ Conds:=[{ Name:={ data:=#[(73:UInt8),(78:UInt8),(73:UInt8),(84:UInt8),(73:UInt8),(65:UInt8),(76:UInt8)] },Exclusive:=false }],Default:=true,Rules:=[{ Conds:=[],All:=false,Bol:=false,Rx:={ Kind:=5,Set:={ e0:=0,e1:=0,e2:=0,e3:=0 },Lo:=0,Hi:=(-1:Int),Kids:=[{ Kind:=2,Set:=r0,Lo:=0,Hi:=0,Kids:=[] }] },Trail:={ Kind:=0,Set:={ e0:=0,e1:=0,e2:=0,e3:=0 },Lo:=0,Hi:=0,Kids:=[] },Eof:=false,Act:=1,To:=0 }] }) a b=CallE Tryz.prog 9 [.agg [.f (FV.sl (List.take (List.length [FV.agg [FV.pv (Value.string { data:=#[(73:UInt8),(78:UInt8),(73:UInt8),(84:UInt8),(73:UInt8),(65:UInt8),(76:UInt8)] }),FV.pv (Value.bool false)]]) (List.drop 0 [FV.agg [FV.pv (Value.string { data:=#[(73:UInt8),(78:UInt8),(73:UInt8),(84:UInt8),(73:UInt8),(65:UInt8),(76:UInt8)] }),FV.pv (Value.bool false)]]))),vB true,.f (FV.sl (List.take (List.length [FV.agg [FV.sl [],FV.pv (Value.bool false),FV.pv (Value.bool false),FV.pv (Value.int IntKind.i64 (5)),FV.pv (Value.int IntKind.u64 (0)),FV.pv (Value.int IntKind.u64 (0)),FV.pv (Value.int IntKind.u64 (0)),FV.pv (Value.int IntKind.u64 (0)),FV.pv (Value.int IntKind.i64 (0)),FV.pv (Value.int IntKind.i64 (-1)),FV.sl (List.map zc [{ Kind:=2,Set:=r0,Lo:=0,Hi:=0,Kids:=[] }]),FV.pv (Value.int IntKind.i64 (0)),FV.pv (Value.int IntKind.u64 (0)),FV.pv (Value.int IntKind.u64 (0)),FV.pv (Value.int IntKind.u64 (0)),FV.pv (Value.int IntKind.u64 (0)),FV.pv (Value.int IntKind.i64 (0)),FV.pv (Value.int IntKind.i64 (0)),FV.sl [],FV.pv (Value.bool false),FV.pv (Value.int IntKind.i64 (1)),FV.pv (Value.int IntKind.i64 (0))]]) (List.drop 0 [FV.agg [FV.sl [],FV.pv (Value.bool false),FV.pv (Value.bool false),FV.pv (Value.int IntKind.i64 (5)),FV.pv (Value.int IntKind.u64 (0)),FV.pv (Value.int IntKind.u64 (0)),FV.pv (Value.int IntKind.u64 (0)),FV.pv (Value.int IntKind.u64 (0)),FV.pv (Value.int IntKind.i64 (0)),FV.pv (Value.int IntKind.i64 (-1)),FV.sl (List.map zc [{ Kind:=2,Set:=r0,Lo:=0,Hi:=0,Kids:=[] }]),FV.pv (Value.int IntKind.i64 (0)),FV.pv (Value.int IntKind.u64 (0)),FV.pv (Value.int IntKind.u64 (0)),FV.pv (Value.int IntKind.u64 (0)),FV.pv (Value.int IntKind.u64 (0)),FV.pv (Value.int IntKind.i64 (0)),FV.pv (Value.int IntKind.i64 (0)),FV.sl [],FV.pv (Value.bool false),FV.pv (Value.int IntKind.i64 (1)),FV.pv (Value.int IntKind.i64 (0))]])))]] [] (.tup [zE a,vB b]) []) d) oN) [4,8] [(7,.ptr 14 0),(14,zE a)] ?_;refine sO oN [7,14] [(2,zE a)] ?_;refine tD ?_;subst h;exact (endQ []).1
theorem zjA (r0:zw) (v:Int) (res:Bool) (fin:Int)
 (h:(∃ c:Bool,zcK ({ Conds:=r0.Conds,All:=r0.All,Bol:=r0.Bol,Rx:=r0.Rx,Trail:=r0.Trail,Eof:=r0.Eof,Act:=r0.Act,To:=r0.To }) v c∧(ck (!c) (res=true∧fin=v) (∃ d:Bool,zc6 ({ Conds:=r0.Conds,All:=r0.All,Bol:=r0.Bol,Rx:=r0.Rx,Trail:=r0.Trail,Eof:=r0.Eof,Act:=r0.Act,To:=r0.To }) v d∧(ck (!d) (res=true∧fin=v) (∃ b:Bool,zb7 ({ Conds:=r0.Conds,All:=r0.All,Bol:=r0.Bol,Rx:=r0.Rx,Trail:=r0.Trail,Eof:=r0.Eof,Act:=r0.Act,To:=r0.To }) b∧(res=(!b)∧fin=v))))))):zdA r0 v res fin:=by
 have kk:=cfOk [] 19;refine fE kk Tryz.func109 [(1,zbg r0),(3,vi v),(4,.ptr 3 0)] ?_;refine sO oN [1] [(7,.ptr 14 0),(14,zbg r0)] ?_;obtain ⟨c,f,h⟩:=h;rcases eft (!c) with a | a
 ·have h:=h.1 a;refine sO (ca f (g1 a 222238887 oN)) [4,7,14] [(10,vB true)] ?_;refine tD ?_;obtain ⟨g,j⟩:=h;subst res fin;exact (endQ []).1
 ·have h:=h.2 a;obtain ⟨d,i,h⟩:=h;rcases eft (!d) with e | e
  ·have h:=h.1 e;refine sO (ca f (g1 a 222 (ca i (g2 e a 562223 oN)))) [4,7,14] [(10,vB true)] ?_;refine tD ?_;obtain ⟨g,j⟩:=h;subst res fin;exact (endQ []).1
  ·have h:=h.2 e;obtain ⟨b,k,h⟩:=h;refine sO (ca f (g1 a 222 (ca i (g2 e a 5622 (ca k (g1 e 23 oN)))))) [4,7,14] [(10,vB (!b))] ?_;refine tD ?_;obtain ⟨g,j⟩:=h;subst res fin;exact (endQ []).1
theorem zaS (s0:(List zw)) (cap:Int) (res:Int) (fin:Int)
 (h:(∃ (a:Int→Int→Prop) (c:Int→Int→Nat),a cap 0∧(∀ (o0:Int) (t8:Int),a o0 t8→(ck (decide (t8 < (↑(List.length s0):Int))) ((0≤t8)∧t8 < ↑(List.length s0)∧(∃ d:Bool,∃ b:Int,zdA (gd s0 t8) o0 d b∧(ck (d) (res=t8∧fin=b) (a b (w64 (t8+1))∧c b (w64 (t8+1)) < c o0 t8)))) (res=(-1)∧fin=o0))))):zal s0 cap res fin:=by
 have kk:=cfOk [17] 19;refine fE kk Tryz.func134 [(1,vL zg s0),(3,vi cap),(4,.clo 109 [.ptr 3 0])] ?_;refine sO oN [] [] ?_;refine qD ?_;refine sV oN [] (List.length (List.map zg s0)) (List.length s0) (fun q=>[(22,vi ((↑(q):Int))),(25,vi 0)]) ?_;refine bD (id:=0) ?_;obtain ⟨a,c,e,f⟩:=h;refine loE [] (u2 fun o0 t8=>[(3,vi o0),(25,vi t8)]) (u2 a) (u2 c) (cap,0) [] e ?_;rintro ⟨o0,t8⟩ hi;have h:=f o0 t8 hi;refine sO oN [] [(28,vB (decide (t8 < (↑(List.length s0):Int))))] ?_;refine qD ?_;refine cH 9 h (fun j h=>?_) (fun j h=>?_)
 ·refine kW [28] ?_;refine qD ?_;refine bD (id:=1) ?_;refine sO oN [] [(16,vi t8)] ?_;obtain ⟨n,h⟩:=h;obtain ⟨l,h⟩:=h;obtain ⟨d,b,k,h⟩:=h;refine sO (xo zg (zaA _) n l (ca k oN)) [] [(3,vi b),(49,vB d)] ?_;refine cH 16 h (fun g h=>?_) (fun g h=>?_)
  ·refine sO oN [1,4,16,22,25,49] [(13,vi t8)] ?_;refine tD ?_;obtain ⟨m,o⟩:=h;subst res fin;exact (endQ []).1
  ·refine kW [16,49] ?_;refine rO oN [] [(25,vi (w64 (t8+1)))] ?_;exact lD (b,(w64 (t8+1))) [] h
 ·refine xD (i:=0) ?_;show Sem _ _ _ _ _;refine wkD [1,4,22,25,28] ?_;refine sO oN [] [(13,vi (-1))] ?_;refine tD ?_;obtain ⟨m,o⟩:=h;subst res fin;exact (endQ []).1
theorem zaL (s0:(List zw)) (cap:Int) (res:Bool) (fin:Int)
 (h:(∃ r0:Int,∃ o:Int,zal s0 cap r0 o∧(res=(decide (r0≥0))∧fin=o))):zU s0 cap res fin:=by
 have kk:=cfOk [] 9;refine fE kk Tryz.func113 [(1,vL zg s0),(3,vi cap),(4,.clo 109 [.ptr 3 0])] ?_;refine sO oN [] [] ?_;obtain ⟨r0,o,a,h⟩:=h;refine sO (ca a oN) [1,4] [(3,vi o),(13,vB (decide (r0≥0)))] ?_;refine tD ?_;obtain ⟨b,c⟩:=h;subst res fin;exact (endQ []).1
theorem zhT (s0:zr) (res:Bool)
 (h:((decide ((↑(List.length (List.map zn s0.Conds)):Int) < 1))=false→((decide ((↑(List.length (List.map zn s0.Conds)):Int) > 8))=false→((decide ((↑(List.length (List.map zg s0.Rules)):Int) > 40))=false→0 < List.length s0.Conds)))∧(ck (decide ((↑(List.length (List.map zn s0.Conds)):Int) < 1) || (decide ((↑(List.length (List.map zn s0.Conds)):Int) > 8) || (decide ((↑(List.length (List.map zg s0.Rules)):Int) > 40) || !(ByteArray.toList (List.getD s0.Conds 0 default).Name == ByteArray.toList { data:=#[(73:UInt8),(78:UInt8),(73:UInt8),(84:UInt8),(73:UInt8),(65:UInt8),(76:UInt8)] } && ((List.getD s0.Conds 0 default).Exclusive == false && true))))) (res=false) (∃ (c:List ByteArray→Int→Prop) (l:List ByteArray→Int→Nat),c ([]) 0∧(∀ (a:List ByteArray) (b:Int),c a b→(ck (decide (b < (↑(List.length s0.Conds):Int))) ((0≤b)∧b < ↑(List.length s0.Conds)∧(∃ k:Bool,zdB (gd s0.Conds b).Name k∧(ck (!k) (res=false) (c (sput (gd s0.Conds b).Name a) (w64 (b+1))∧l (sput (gd s0.Conds b).Name a) (w64 (b+1)) < l a b)))) (ck ((↑(List.length (List.map zT a)):Int) == (↑(List.length s0.Conds):Int)) (∃ j:Bool,∃ o:Int,zU s0.Rules ((↑(List.length s0.Conds):Int)) j o∧(res=(!j))) (res=false))))))):zcj s0 res:=by
 have kk:=cfOk [] 64;refine fE kk Tryz.func81 [(1,zag s0)] ?_;refine sO oN [1] [(4,.ptr 8 0),(8,zag s0)] ?_;refine qD ?_;obtain ⟨h3,h⟩:=h;refine sM [] [(94,vB (decide ((↑(List.length (List.map zn s0.Conds)):Int) < 1) || (decide ((↑(List.length (List.map zn s0.Conds)):Int) > 8) || (decide ((↑(List.length (List.map zg s0.Rules)):Int) > 40) || !(ByteArray.toList (List.getD s0.Conds 0 default).Name == ByteArray.toList { data:=#[(73:UInt8),(78:UInt8),(73:UInt8),(84:UInt8),(73:UInt8),(65:UInt8),(76:UInt8)] } && ((List.getD s0.Conds 0 default).Exclusive == false && true))))))] ?_ (fun p=>?_)
 ·refine cH 31 h (fun v h=>?_) (fun v h=>?_)
  ·refine sO oN [4,8,94] [(7,vB false)] ?_;refine tD ?_;subst h;exact (endQ []).1
  ·refine kW [94] ?_;refine sOE oN [] [(10,.ptr 389 0),(389,.f (FV.sl []))] [(10,.ptr 389 0),(389,vL zT ([]))] ?_;refine qD ?_;refine sV oN [] (List.length (List.map zn s0.Conds)) (List.length s0.Conds) (fun q=>[(103,vL zn s0.Conds),(106,vi ((↑(q):Int))),(109,vi 0)]) ?_;refine bD (id:=0) ?_;obtain ⟨c,l,m,n⟩:=h;refine loE [] (u2 fun a b=>[(109,vi b),(389,vL zT a)]) (u2 c) (u2 l) (([]),0) [] m ?_;rintro ⟨a,b⟩ hi;have h:=n a b hi;refine sO oN [] [(112,vB (decide (b < (↑(List.length s0.Conds):Int))))] ?_;refine qD ?_;refine cH 37 h (fun t h=>?_) (fun t h=>?_)
   ·refine kW [112] ?_;refine qD ?_;refine bD (id:=1) ?_;obtain ⟨y,h⟩:=h;obtain ⟨w,h⟩:=h;refine sO (xo zn (zbO _) y w oN) [] [(16,.ptr 32 0),(32,zju (gd s0.Conds b))] ?_;refine qD ?_;obtain ⟨k,r,h⟩:=h;refine sO (ca r oN) [] [(130,vB (!k))] ?_;refine cH 43 h (fun s h=>?_) (fun s h=>?_)
    ·refine sO oN [4,8,10,16,32,103,106,109,130,389] [(7,vB false)] ?_;refine tD ?_;subst h;exact (endQ []).1
    ·refine kW [130] ?_;refine rOE (nd (show List.all (List.map zT a) (keyIs (TI.desc { desc:=TypeInfo.desc Proofs.Tryz.t9,size:=(1:Nat),bytes:=(16:Nat),zero:=Option.some (AV.f (FV.pv (Value.string { data:=#[] }))) }))=true from by first | exact fitsm_string_set _ | exact zfR _ | rfl | simp [isByteF,FV.fits,FV.size,FV.cells,FV.one,]) oN) [16,32] [(389,.f (FV.sl (putE (Value.string (gd s0.Conds b).Name) (FV.agg []) (List.map zT a))))] [(389,vL zT (sput (gd s0.Conds b).Name a))] ?_;show Sem _ _ _ _ _;refine rO oN [] [(109,vi (w64 (b+1)))] ?_;exact lD ((sput (gd s0.Conds b).Name a),(w64 (b+1))) [] h
   ·refine xD (i:=0) ?_;show Sem _ _ _ _ _;refine wkD [103,106,109,112] ?_;refine sV oN [] (List.length (List.map zn s0.Conds)) (List.length s0.Conds) (fun q=>[(19,.ptr 38 0),(38,vi ((↑(q):Int)))]) ?_;refine sO oN [] [(22,.clo 109 [.ptr 38 0])] ?_;rcases eft ((↑(List.length (List.map zT a)):Int) == (↑(List.length s0.Conds):Int)) with e | e
    ·have h:=h.1 e;obtain ⟨j,o,u,h⟩:=h;refine sO (g1 e 1111 (ca u (g1 e 13 oN))) [4,8,10,19,22,38,389] [(7,vB (!j))] ?_;refine tD ?_;subst h;exact (endQ []).1
    ·have h:=h.2 e;refine sO (g1 e 111113 oN) [4,8,10,19,22,38,389] [(7,vB false)] ?_;refine tD ?_;subst h;exact (endQ []).1
 ·rcases eft (decide ((↑(List.length (List.map zn s0.Conds)):Int) < 1)) with d | d
  ·refine sO (g1 d 22223888878888887 oN) [] [(94,vB true)] ?_;exact Sem.cast (by try rw [d];kernel_rfl) p
  ·rcases eft (decide ((↑(List.length (List.map zn s0.Conds)):Int) > 8)) with f | f
   ·refine sO (g2 f d 55556222238888887 oN) [] [(94,vB true)] ?_;exact Sem.cast (by try rw [d];try rw [f];kernel_rfl) p
   ·rcases eft (decide ((↑(List.length (List.map zg s0.Rules)):Int) > 40)) with g | g
    ·refine sO (g1 d 22223 (g2 g f 555562222223 oN)) [] [(94,vB true)] ?_;exact Sem.cast (by try rw [d];try rw [f];try rw [g];kernel_rfl) p
    ·refine sO (g1 d 22223 (g2 g f 55556222 (nd (show (0:Int)≤(0:Int) from by first | decide | rfl | trivial) (el (show (List.map zn s0.Conds)[(Int.toNat (0:Int):Nat)]?=some (zdv (List.getD s0.Conds (0:Nat) default)) from by have:=zbM zn s0.Conds ((0:Nat)) _ (zbO _) (((h3 d) f) g);simpa only [nm,enq,zbO] using this) (g1 g 2223 oN))))) [] [(94,vB (!(ByteArray.toList (List.getD s0.Conds 0 default).Name == ByteArray.toList { data:=#[(73:UInt8),(78:UInt8),(73:UInt8),(84:UInt8),(73:UInt8),(65:UInt8),(76:UInt8)] } && ((List.getD s0.Conds 0 default).Exclusive == false && true))))] ?_;exact Sem.cast (by try rw [d];try rw [f];try rw [g];kernel_rfl) p
theorem W_pack_sizes (p:zk) (res:Bool)
 (h:(res=(decide ((↑(List.length p.Base):Int)≤500) && (decide ((↑(List.length p.Next):Int)≤50000) && ((↑(List.length p.Default):Int) == (↑(List.length p.Base):Int) && ((↑(List.length p.Accept):Int) == (↑(List.length p.Base):Int) && ((↑(List.length p.Check):Int) == (↑(List.length p.Next):Int) && ((↑(List.length p.Map):Int) == 256 && decide ((↑(List.length p.Start):Int)≤16))))))))):ze9 p res:=by
 have kk:=cfOk [] 50;refine fE kk Tryz.func114 [(1,zaI p)] ?_;refine sO oN [1] [(4,.ptr 8 0),(8,zaI p)] ?_;refine sOE oN [] [(10,vi ((↑(List.length (List.map za p.Base)):Int))),(13,vi ((↑(List.length (List.map za p.Next)):Int)))] [(10,vi ((↑(List.length p.Base):Int))),(13,vi ((↑(List.length p.Next):Int)))] ?_;refine sM [4,8,10,13] [(7,vB (decide ((↑(List.length p.Base):Int)≤500) && (decide ((↑(List.length p.Next):Int)≤50000) && ((↑(List.length (List.map za p.Default)):Int) == (↑(List.length p.Base):Int) && ((↑(List.length (List.map za p.Accept)):Int) == (↑(List.length p.Base):Int) && ((↑(List.length (List.map za p.Check)):Int) == (↑(List.length p.Next):Int) && ((↑(List.length (List.map za p.Map)):Int) == 256 && decide ((↑(List.length p.Start):Int)≤16))))))))] ?_ (fun e=>?_)
 ·refine tD ?_;obtain he0:=h;subst res;exact (endD [] (vB (decide ((↑(List.length p.Base):Int)≤500) && (decide ((↑(List.length p.Next):Int)≤50000) && ((↑(List.length (List.map za p.Default)):Int) == (↑(List.length p.Base):Int) && ((↑(List.length (List.map za p.Accept)):Int) == (↑(List.length p.Base):Int) && ((↑(List.length (List.map za p.Check)):Int) == (↑(List.length p.Next):Int) && ((↑(List.length (List.map za p.Map)):Int) == 256 && decide ((↑(List.length p.Start):Int)≤16)))))))) []).1
 ·rcases eft (decide ((↑(List.length p.Base):Int)≤500)) with a | a
  ·rcases eft (decide ((↑(List.length p.Next):Int)≤50000)) with b | b
   ·rcases eft ((↑(List.length (List.map za p.Default)):Int) == (↑(List.length p.Base):Int)) with c | c
    ·rcases eft ((↑(List.length (List.map za p.Accept)):Int) == (↑(List.length p.Base):Int)) with d | d
     ·rcases eft ((↑(List.length (List.map za p.Check)):Int) == (↑(List.length p.Next):Int)) with f | f
      ·rcases eft ((↑(List.length (List.map za p.Map)):Int) == 256) with g | g
       ·refine sV (g2 b a 446111113 (g2 d c 444446111113 (g2 g f 4444611113 oN))) [4,8,10,13] (List.length (List.map za p.Start)) (List.length p.Start) (fun q=>[(7,vB (decide ((↑(q):Int)≤16)))]) ?_;exact Sem.cast (by try rw [a];try rw [b];try rw [c];try rw [d];try rw [f];try rw [g];kernel_rfl) e
       ·refine sO (g2 b a 446111113 (g2 d c 444446111113 (g2 g f 4444611113 oN))) [4,8,10,13] [(7,vB false)] ?_;exact Sem.cast (by try rw [a];try rw [b];try rw [c];try rw [d];try rw [f];try rw [g];kernel_rfl) e
      ·refine sO (g1 a 113 (g2 c b 444446111113 (g2 f d 4444461111388888 oN))) [4,8,10,13] [(7,vB false)] ?_;exact Sem.cast (by try rw [a];try rw [b];try rw [c];try rw [d];try rw [f];kernel_rfl) e
     ·refine sO (g2 b a 446111113 (g2 d c 4444461111138888888888 oN)) [4,8,10,13] [(7,vB false)] ?_;exact Sem.cast (by try rw [a];try rw [b];try rw [c];try rw [d];kernel_rfl) e
    ·refine sO (g1 a 113 (g2 c b 4444461111138888888888888888 oN)) [4,8,10,13] [(7,vB false)] ?_;exact Sem.cast (by try rw [a];try rw [b];try rw [c];kernel_rfl) e
   ·refine sO (g2 b a 4461111138888888888888888888888 oN) [4,8,10,13] [(7,vB false)] ?_;exact Sem.cast (by try rw [a];try rw [b];kernel_rfl) e
  ·refine sO (g1 a 1138888888888888888888888888888 oN) [4,8,10,13] [(7,vB false)] ?_;exact Sem.cast (by try rw [a];kernel_rfl) e
theorem zh7 (n:Int) (v:Int) (a:Int) (res:Bool) (fin:Int) (fin_1:Int)
 (h:(res=(decide (n < v) || decide (n≥a))∧fin=v∧fin_1=a)):zc8 n v a res fin fin_1:=by
 have kk:=cfOk [] 13;refine fE kk Tryz.func135 [(1,vi n),(3,vi v),(4,.ptr 3 0),(6,vi a),(7,.ptr 6 0)] ?_;refine sO oN [] [] ?_;refine sM [1,4,7] [(13,vB (decide (n < v) || decide (n≥a)))] ?_ (fun c=>?_)
 ·refine tD ?_;obtain ⟨d,f,e⟩:=h;subst res fin fin_1;exact (endQ []).1
 ·rcases eft (decide (n < v)) with b | b
  ·refine sO (g1 b 2223 oN) [1,4,7] [(13,vB true)] ?_;exact Sem.cast (by try rw [b];kernel_rfl) c
  ·refine sO (g1 b 2223 oN) [1,4,7] [(13,vB (decide (n≥a)))] ?_;exact Sem.cast (by try rw [b];kernel_rfl) c
theorem zbq (s0:(List Int)) (cap:Int) (a:Int) (res:Int) (fin:Int) (fin_1:Int)
 (h:(∃ (b:Int→Int→Int→Prop) (e:Int→Int→Int→Nat),b cap a 0∧(∀ (o0:Int) (o1:Int) (t8:Int),b o0 o1 t8→(ck (decide (t8 < (↑(List.length s0):Int))) ((0≤t8)∧t8 < ↑(List.length s0)∧(∃ f:Bool,∃ d:Int,∃ c:Int,zc8 (gd s0 t8) o0 o1 f d c∧(ck (f) (res=t8∧fin=d∧fin_1=c) (b d c (w64 (t8+1))∧e d c (w64 (t8+1)) < e o0 o1 t8)))) (res=(-1)∧fin=o0∧fin_1=o1))))):zad s0 cap a res fin fin_1:=by
 have kk:=cfOk [17] 19;refine fE kk Tryz.func116 [(1,vL za s0),(3,vi cap),(4,.clo 135 [.ptr 3 0,.ptr 6 0]),(6,vi a)] ?_;refine sO oN [] [] ?_;refine qD ?_;refine sV oN [] (List.length (List.map za s0)) (List.length s0) (fun q=>[(22,vi ((↑(q):Int))),(25,vi 0)]) ?_;refine bD (id:=0) ?_;obtain ⟨b,e,g,j⟩:=h;refine loE [] (u3 fun o0 o1 t8=>[(3,vi o0),(6,vi o1),(25,vi t8)]) (u3 b) (u3 e) (cap,a,0) [] g ?_;rintro ⟨o0,o1,t8⟩ hi;have h:=j o0 o1 t8 hi;refine sO oN [] [(28,vB (decide (t8 < (↑(List.length s0):Int))))] ?_;refine qD ?_;refine cH 9 h (fun k h=>?_) (fun k h=>?_)
 ·refine kW [28] ?_;refine qD ?_;refine bD (id:=1) ?_;refine sO oN [] [(16,vi t8)] ?_;obtain ⟨s,h⟩:=h;obtain ⟨n,h⟩:=h;obtain ⟨f,d,c,m,h⟩:=h;refine sO (xo za rfl s n (ca m oN)) [] [(3,vi d),(6,vi c),(49,vB f)] ?_;refine cH 16 h (fun l h=>?_) (fun l h=>?_)
  ·refine sO oN [1,4,16,22,25,49] [(13,vi t8)] ?_;refine tD ?_;obtain ⟨o,p,r⟩:=h;subst res fin fin_1;exact (endQ []).1
  ·refine kW [16,49] ?_;refine rO oN [] [(25,vi (w64 (t8+1)))] ?_;exact lD (d,c,(w64 (t8+1))) [] h
 ·refine xD (i:=0) ?_;show Sem _ _ _ _ _;refine wkD [1,4,22,25,28] ?_;refine sO oN [] [(13,vi (-1))] ?_;refine tD ?_;obtain ⟨o,p,r⟩:=h;subst res fin fin_1;exact (endQ []).1
theorem za9 (s0:(List Int)) (cap:Int) (a:Int) (res:Bool) (fin:Int) (fin_1:Int)
 (h:(∃ r0:Int,∃ o:Int,∃ b:Int,zad s0 cap a r0 o b∧(res=(decide (r0≥0))∧fin=o∧fin_1=b))):zat s0 cap a res fin fin_1:=by
 have kk:=cfOk [] 9;refine fE kk Tryz.func84 [(1,vL za s0),(3,vi cap),(4,.clo 135 [.ptr 3 0,.ptr 6 0]),(6,vi a)] ?_;refine sO oN [] [] ?_;obtain ⟨r0,o,b,c,h⟩:=h;refine sO (ca c oN) [1,4] [(3,vi o),(6,vi b),(13,vB (decide (r0≥0)))] ?_;refine tD ?_;obtain ⟨d,f,e⟩:=h;subst res fin fin_1;exact (endQ []).1
theorem W_pack_within (l:(List Int)) (a:Int) (b:Int) (res:Bool)
 (h:(∃ r0:Bool,∃ o:Int,∃ c:Int,zat l a b r0 o c∧(res=(!r0)))):zbc l a b res:=by
 have kk:=cfOk [] 11;refine fE kk Tryz.func115 [(1,vL za l),(4,vi a),(7,vi b)] ?_;refine sO oN [4,7] [(13,.ptr 26 0),(16,.ptr 32 0),(26,vi a),(32,vi b)] ?_;obtain ⟨r0,o,c,d,h⟩:=h;refine sO (ca d oN) [1,13,16,26,32] [(19,vB (!r0))] ?_;refine tD ?_;subst h;exact (endQ []).1
theorem W_pack_Valid (p:zk) (res:Bool)
 (h:(∃ r0:Bool,ze9 p r0∧(ck (!r0 || (decide (p.Width < 1) || decide (p.Width > 256))) (res=false) (∃ (f:Int→Prop) (t:Int→Nat),f 0∧(∀ (a:Int),f a→(ck (decide (a < (↑(List.length p.Default):Int))) ((0≤a)∧a < ↑(List.length p.Default)∧(ck (decide (gd p.Default a < (-1:Int)) || decide (gd p.Default a≥a)) (res=false) (f (w64 (a+1))∧t (w64 (a+1)) < t a))) (∃ o:Bool,zbc p.Map 0 p.Width o∧(ck (o) (∃ w:Bool,zbc p.Base 0 (w64 ((↑(List.length p.Next):Int)+1)) w∧(ck (w) (∃ n:Bool,zbc p.Next (-1) ((↑(List.length p.Base):Int)) n∧(ck (n) (∃ r:Bool,zbc p.Check (-1) ((↑(List.length p.Base):Int)) r∧(ck (r) (∃ v:Bool,zbc p.Accept (-1) (40) v∧(ck (v) (∃ s:Bool,zbc p.Start (-1) ((↑(List.length p.Base):Int)) s∧(res=s)) (res=false))) (res=false))) (res=false))) (res=false))) (res=false))))))))):zfa p res:=by
 have kk:=cfOk [] 77;refine fE kk Tryz.func82 [(1,zaI p)] ?_;refine sO oN [1] [(4,.ptr 8 0),(8,zaI p)] ?_;refine qD ?_;obtain ⟨r0,H,h⟩:=h;refine sM [] [(58,vB (!r0 || (decide (p.Width < 1) || decide (p.Width > 256))))] ?_ (fun y=>?_)
 ·refine cH 19 h (fun O h=>?_) (fun O h=>?_)
  ·refine sO oN [4,8,58] [(7,vB false)] ?_;refine tD ?_;subst h;exact (endQ []).1
  ·refine kW [58] ?_;refine qD ?_;refine sV oN [] (List.length (List.map za p.Default)) (List.length p.Default) (fun q=>[(64,vL za p.Default),(67,vi ((↑(q):Int))),(70,vi 0)]) ?_;refine bD (id:=0) ?_;obtain ⟨f,t,A,E⟩:=h;refine loE [] (fun a=>[(70,vi a)]) f t 0 [] A ?_;rintro a hi;have h:=E a hi;refine sO oN [] [(73,vB (decide (a < (↑(List.length p.Default):Int))))] ?_;refine qD ?_;refine cH 24 h (fun M h=>?_) (fun M h=>?_)
   ·refine kW [73] ?_;refine qD ?_;refine bD (id:=1) ?_;obtain ⟨N,h⟩:=h;obtain ⟨Q,h⟩:=h;refine sO (xo za rfl N Q oN) [] [(10,vi a),(13,vi (gd p.Default a))] ?_;refine sM [10,13] [(103,vB (decide (gd p.Default a < (-1:Int)) || decide (gd p.Default a≥a)))] ?_ (fun y=>?_)
    ·refine cH 34 h (fun J h=>?_) (fun J h=>?_)
     ·refine sO oN [4,8,64,67,70,103] [(7,vB false)] ?_;refine tD ?_;subst h;exact (endQ []).1
     ·refine kW [103] ?_;refine rO oN [] [(70,vi (w64 (a+1)))] ?_;exact lD (w64 (a+1)) [] h
    ·rcases eft (decide (gd p.Default a < (-1:Int))) with l | l
     ·refine sO (g1 l 2223 oN) [10,13] [(103,vB true)] ?_;exact Sem.cast (by try rw [l];kernel_rfl) y
     ·refine sO (g1 l 2223 oN) [10,13] [(103,vB (decide (gd p.Default a≥a)))] ?_;exact Sem.cast (by try rw [l];kernel_rfl) y
   ·refine xD (i:=0) ?_;show Sem _ _ _ _ _;refine wkD [64,67,70,73] ?_;refine sOE oN [] [(16,vi ((↑(List.length (List.map za p.Base)):Int))),(19,vi ((↑(List.length (List.map za p.Next)):Int)))] [(16,vi ((↑(List.length p.Base):Int))),(19,vi ((↑(List.length p.Next):Int)))] ?_;obtain ⟨o,g,h⟩:=h;rcases eft (o) with b | b
    ·have h:=h.1 b;obtain ⟨w,k,h⟩:=h;rcases eft (w) with c | c
     ·have h:=h.1 c;obtain ⟨n,u,h⟩:=h;rcases eft (n) with d | d
      ·have h:=h.1 d;obtain ⟨r,B,h⟩:=h;rcases eft (r) with e | e
       ·have h:=h.1 e;obtain ⟨v,F,h⟩:=h;rcases eft (v) with j | j
        ·have h:=h.1 j;obtain ⟨s,I,h⟩:=h;refine sO (ca g (g1 b 11111 (ca k (g2 c b 61111 (ca u (g2 d c 61111 (ca B (g2 e d 6111 (ca F (g2 j e 61111 (ca I (g1 j 3 oN)))))))))))) [4,8,16,19] [(7,vB s)] ?_;refine tD ?_;subst h;exact (endQ []).1
        ·have h:=h.2 j;refine sO (ca g (g1 b 11111 (ca k (g2 c b 61111 (ca u (g2 d c 61111 (ca B (g2 e d 6111 (ca F (g2 j e 611113 oN)))))))))) [4,8,16,19] [(7,vB false)] ?_;refine tD ?_;subst h;exact (endQ []).1
       ·have h:=h.2 e;refine sO (ca g (g1 b 11111 (ca k (g2 c b 61111 (ca u (g2 d c 61111 (ca B (g2 e d 6111388888 oN)))))))) [4,8,16,19] [(7,vB false)] ?_;refine tD ?_;subst h;exact (endQ []).1
      ·have h:=h.2 d;refine sO (ca g (g1 b 11111 (ca k (g2 c b 61111 (ca u (g2 d c 611113888888888 oN)))))) [4,8,16,19] [(7,vB false)] ?_;refine tD ?_;subst h;exact (endQ []).1
     ·have h:=h.2 c;refine sO (ca g (g1 b 11111 (ca k (g2 c b 61111388888888888888 oN)))) [4,8,16,19] [(7,vB false)] ?_;refine tD ?_;subst h;exact (endQ []).1
    ·have h:=h.2 b;refine sO (ca g (g1 b 1111138888888888888888888 oN)) [4,8,16,19] [(7,vB false)] ?_;refine tD ?_;subst h;exact (endQ []).1
 ·rcases eft (!r0) with m | m
  ·refine sO (ca H (g1 m 22238887 oN)) [] [(58,vB true)] ?_;exact Sem.cast (by try rw [m];kernel_rfl) y
  ·rcases eft (decide (p.Width < 1)) with D | D
   ·refine sO (ca H (g2 D m 55562223 oN)) [] [(58,vB true)] ?_;exact Sem.cast (by try rw [m];try rw [D];kernel_rfl) y
   ·refine sO (ca H (g2 D m 55562223 oN)) [] [(58,vB (decide (p.Width > 256)))] ?_;exact Sem.cast (by try rw [m];try rw [D];kernel_rfl) y
theorem zg7 (k:Int) (v:zd) (res:Bool) (fin:zd)
 (h:((decide (k≥(↑(List.length (List.map zg (zr.Rules v.Spec))):Int)))=false→((decide (k≥0))=true→(0≤k)))∧((decide (k≥(↑(List.length (List.map zg (zr.Rules v.Spec))):Int)))=false→((decide (k≥0))=true→k < ↑(List.length (zr.Rules v.Spec))))∧(res=(decide (k≥(↑(List.length (zr.Rules v.Spec)):Int)) || decide (k≥0) && (gd (zr.Rules v.Spec) k).Eof)∧fin=v)):zdN k v res fin:=by
 have kk:=cfOk [] 23;refine fE kk Tryz.func83 [(1,vi k),(3,zE v),(4,.ptr 3 0)] ?_;refine sO oN [] [] ?_;obtain ⟨h2,h3,h⟩:=h;refine sM [1,4] [(10,vB (decide (k≥(↑(List.length (List.map zg (zr.Rules v.Spec))):Int)) || decide (k≥0) && (gd (zr.Rules v.Spec) k).Eof))] ?_ (fun c=>?_)
 ·refine tD ?_;obtain ⟨d,e⟩:=h;subst res fin;exact (endD [] (vB (decide (k≥(↑(List.length (List.map zg (zr.Rules v.Spec))):Int)) || decide (k≥0) && (gd (zr.Rules v.Spec) k).Eof)) [zE v]).1
 ·rcases eft (decide (k≥(↑(List.length (List.map zg (zr.Rules v.Spec))):Int))) with a | a
  ·refine sO (g1 a 22223 oN) [1,4] [(10,vB true)] ?_;exact Sem.cast (by try rw [a];kernel_rfl) c
  ·rcases eft (decide (k≥0)) with b | b
   ·refine sO (g2 b a 55511111 (xo zg (zaA _) ((h2 a) b) ((h3 a) b) (g2 a b 44263 oN))) [1,4] [(10,vB (gd (zr.Rules v.Spec) k).Eof)] ?_;exact Sem.cast (by try rw [a];try rw [b];kernel_rfl) c
   ·refine sO (g2 a b 2224444444263 oN) [1,4] [(10,vB false)] ?_;exact Sem.cast (by try rw [a];try rw [b];kernel_rfl) c
theorem zbh (s0:(List Int)) (cap:zd) (res:Int) (fin:zd)
 (h:(∃ (o:List zaJ→Bool→List zw→List Int→Int→List Int→List Int→List Int→List Int→List Int→List Int→Int→Prop) (p:List zaJ→Bool→List zw→List Int→Int→List Int→List Int→List Int→List Int→List Int→List Int→Int→Nat),o (zr.Conds cap.Spec) (zr.Default cap.Spec) (zr.Rules cap.Spec) (zk.Map cap.Tables) (zk.Width cap.Tables) (zk.Base cap.Tables) (zk.Default cap.Tables) (zk.Next cap.Tables) (zk.Check cap.Tables) (zk.Accept cap.Tables) (zk.Start cap.Tables) 0∧(∀ (m:List zaJ) (c:Bool) (k:List zw) (l:List Int) (e:Int) (g:List Int) (a:List Int) (j:List Int) (f:List Int) (b:List Int) (d:List Int) (t8:Int),o m c k l e g a j f b d t8→(ck (decide (t8 < (↑(List.length s0):Int))) ((0≤t8)∧t8 < ↑(List.length s0)∧(∃ r:Bool,∃ n:zd,zdN (gd s0 t8) ({ Spec:={ Conds:=m,Default:=c,Rules:=k },Tables:={ Map:=l,Width:=e,Base:=g,Default:=a,Next:=j,Check:=f,Accept:=b,Start:=d } }) r n∧(ck (r) (res=t8∧fin=n) (o (zr.Conds n.Spec) (zr.Default n.Spec) (zr.Rules n.Spec) (zk.Map n.Tables) (zk.Width n.Tables) (zk.Base n.Tables) (zk.Default n.Tables) (zk.Next n.Tables) (zk.Check n.Tables) (zk.Accept n.Tables) (zk.Start n.Tables) (w64 (t8+1))∧p (zr.Conds n.Spec) (zr.Default n.Spec) (zr.Rules n.Spec) (zk.Map n.Tables) (zk.Width n.Tables) (zk.Base n.Tables) (zk.Default n.Tables) (zk.Next n.Tables) (zk.Check n.Tables) (zk.Accept n.Tables) (zk.Start n.Tables) (w64 (t8+1)) < p m c k l e g a j f b d t8)))) (res=(-1)∧fin=({ Spec:={ Conds:=m,Default:=c,Rules:=k },Tables:={ Map:=l,Width:=e,Base:=g,Default:=a,Next:=j,Check:=f,Accept:=b,Start:=d } })))))):zaa s0 cap res fin:=by
 have kk:=cfOk [17] 19;refine fE kk Tryz.func116 [(1,vL za s0),(3,zE cap),(4,.clo 83 [.ptr 3 0])] ?_;refine sO oN [] [] ?_;refine qD ?_;refine sV oN [] (List.length (List.map za s0)) (List.length s0) (fun q=>[(22,vi ((↑(q):Int))),(25,vi 0)]) ?_;refine bD (id:=0) ?_;obtain ⟨o,p,s,t⟩:=h;refine loE [] (u12 fun m c k l e g a j f b d t8=>[(3,.agg [vL zn m,vB c,vL zg k,vL za l,vi e,vL za g,vL za a,vL za j,vL za f,vL za b,vL za d]),(25,vi t8)]) (u12 o) (u12 p) ((zr.Conds cap.Spec),(zr.Default cap.Spec),(zr.Rules cap.Spec),(zk.Map cap.Tables),(zk.Width cap.Tables),(zk.Base cap.Tables),(zk.Default cap.Tables),(zk.Next cap.Tables),(zk.Check cap.Tables),(zk.Accept cap.Tables),(zk.Start cap.Tables),0) [] s ?_;rintro ⟨m,c,k,l,e,g,a,j,f,b,d,t8⟩ hi;have h:=t m c k l e g a j f b d t8 hi;refine sO oN [] [(28,vB (decide (t8 < (↑(List.length s0):Int))))] ?_;refine qD ?_;refine cH 9 h (fun u h=>?_) (fun u h=>?_)
 ·refine kW [28] ?_;refine qD ?_;refine bD (id:=1) ?_;refine sO oN [] [(16,vi t8)] ?_;obtain ⟨D,h⟩:=h;obtain ⟨y,h⟩:=h;obtain ⟨r,n,w,h⟩:=h;refine sO (xo za rfl D y (ca w oN)) [] [(3,zE n),(49,vB r)] ?_;refine cH 16 h (fun v h=>?_) (fun v h=>?_)
  ·refine sO oN [1,4,16,22,25,49] [(13,vi t8)] ?_;refine tD ?_;obtain ⟨A,B⟩:=h;subst res fin;exact (endQ []).1
  ·refine kW [16,49] ?_;refine rO oN [] [(25,vi (w64 (t8+1)))] ?_;exact lD ((zr.Conds n.Spec),(zr.Default n.Spec),(zr.Rules n.Spec),(zk.Map n.Tables),(zk.Width n.Tables),(zk.Base n.Tables),(zk.Default n.Tables),(zk.Next n.Tables),(zk.Check n.Tables),(zk.Accept n.Tables),(zk.Start n.Tables),(w64 (t8+1))) [] h
 ·refine xD (i:=0) ?_;show Sem _ _ _ _ _;refine wkD [1,4,22,25,28] ?_;refine sO oN [] [(13,vi (-1))] ?_;refine tD ?_;obtain ⟨A,B⟩:=h;subst res fin;exact (endQ []).1
theorem za2 (s0:(List Int)) (cap:zd) (res:Bool) (fin:zd)
 (h:(∃ r0:Int,∃ o:zd,zaa s0 cap r0 o∧(res=(decide (r0≥0))∧fin=o))):z6 s0 cap res fin:=by
 have kk:=cfOk [] 9;refine fE kk Tryz.func84 [(1,vL za s0),(3,zE cap),(4,.clo 83 [.ptr 3 0])] ?_;refine sO oN [] [] ?_;obtain ⟨r0,o,a,h⟩:=h;refine sO (ca a oN) [1,4] [(3,zE o),(13,vB (decide (r0≥0)))] ?_;refine tD ?_;obtain ⟨b,c⟩:=h;subst res fin;exact (endQ []).1
theorem ze7 (p:zd) (res:Bool)
 (h:(∃ r0:Bool,zcj p.Spec r0∧(ck (!r0) (res=false) (∃ c:Bool,zfa p.Tables c∧(ck (!c) (res=false) (ck ((↑(List.length (zk.Start p.Tables)):Int) != w64 (2 * (↑(List.length (zr.Conds p.Spec)):Int))) (res=false) (∃ d:Bool,∃ o:zd,z6 (zk.Accept p.Tables) p d o∧(res=(!d))))))))):zdD p res:=by
 have kk:=cfOk [] 33;refine fE kk Tryz.func53 [(1,zE p)] ?_;refine sO oN [1] [(4,.ptr 8 0),(8,zE p)] ?_;refine qD ?_;obtain ⟨r0,f,h⟩:=h;rcases eft (!r0) with a | a
 ·have h:=h.1 a;refine sO (ca f (g1 a 2222388888888887 oN)) [] [(76,vB true)] ?_;refine cD (t:=25) (b:=true) (fun j=>?_) (fun j=>?_)
  ·refine sO oN [4,8,76] [(7,vB false)] ?_;refine tD ?_;subst h;exact (endQ []).1
  ·cases j
 ·have h:=h.2 a;obtain ⟨c,g,h⟩:=h;rcases eft (!c) with e | e
  ·have h:=h.1 e;refine sO (ca f (g1 a 222 (ca g (g2 e a 5622222222223 oN)))) [] [(76,vB true)] ?_;refine cD (t:=25) (b:=true) (fun i=>?_) (fun i=>?_)
   ·refine sO oN [4,8,76] [(7,vB false)] ?_;refine tD ?_;subst h;exact (endQ []).1
   ·cases i
  ·have h:=h.2 e;refine sOE (ca f (g1 a 222 (ca g (g2 e a 5622222222223 oN)))) [] [(76,vB ((↑(List.length (List.map za (zk.Start p.Tables))):Int) != w64 (2 * (↑(List.length (List.map zn (zr.Conds p.Spec))):Int))))] [(76,vB ((↑(List.length (zk.Start p.Tables)):Int) != w64 (2 * (↑(List.length (zr.Conds p.Spec)):Int))))] ?_;refine cH 25 h (fun l h=>?_) (fun l h=>?_)
   ·refine sO oN [4,8,76] [(7,vB false)] ?_;refine tD ?_;subst h;exact (endQ []).1
   ·refine kW [76] ?_;refine sO oN [] [(10,.clo 83 [.ptr 8 0])] ?_;obtain ⟨d,o,k,h⟩:=h;refine sO (ca k oN) [4,8,10] [(7,vB (!d))] ?_;refine tD ?_;subst h;exact (endQ []).1
theorem zhU (p:zd) (w0:ByteArray) (res:Bool)
 (h:(ck (decide ((↑(ByteArray.size w0):Int)≤10000)) (∃ r0:Bool,zdD p r0∧(res=r0)) (res=false))):zc1 p w0 res:=by
 have kk:=cfOk [] 12;refine fE kk Tryz.func32 [(1,zE p),(4,vS w0)] ?_;refine sO oN [1] [(7,.ptr 14 0),(14,zE p)] ?_;rcases eft (decide ((↑(ByteArray.size w0):Int)≤10000)) with a | a
 ·have h:=h.1 a;obtain ⟨r0,b,h⟩:=h;refine sO (g1 a 11 (ca b (g1 a 3 oN))) [4,7,14] [(13,vB r0)] ?_;refine tD ?_;subst h;exact (endQ []).1
 ·have h:=h.2 a;refine sO (g1 a 113 oN) [4,7,14] [(13,vB false)] ?_;refine tD ?_;subst h;exact (endQ []).1
theorem zf4 (s0:zh) (res:Bool) (fin:zh)
 (h:(res=(decide (s0.At < (↑(ByteArray.size s0.W):Int)))∧fin=s0)):zca s0 res fin:=by
 have kk:=cfOk [] 13;refine fE kk Tryz.func34 [(1,.ptr 3 0),(3,axs s0)] ?_;refine sO oN [] [] ?_;refine sO oN [1] [(7,vB (decide (s0.At < (↑(ByteArray.size s0.W):Int))))] ?_;refine tD ?_;obtain ⟨a,b⟩:=h;subst res fin;exact (endQ []).1
theorem W_model_Bol (w0:ByteArray) (a:Int) (res:Bool)
 (h:((a == 0)=false→(0≤w64 (a - 1)))∧((a == 0)=false→w64 (a - 1) < ↑(ByteArray.size w0))∧(res=(a == 0 || (↑(UInt8.toNat (byteAt w0 (w64 (a - 1)))):Int) == 10))):zgg w0 a res:=by
 have kk:=cfOk [] 14;refine fE kk Tryz.func90 [(1,vS w0),(4,vi a)] ?_;refine sO oN [] [] ?_;obtain ⟨h1,h2,h⟩:=h;refine sM [1,4] [(13,vB (a == 0 || (↑(UInt8.toNat (byteAt w0 (w64 (a - 1)))):Int) == 10))] ?_ (fun c=>?_)
 ·refine tD ?_;subst h;exact (endQ []).1
 ·rcases eft (a == 0) with b | b
  ·refine sO (g1 b 222223 oN) [1,4] [(13,vB true)] ?_;exact Sem.cast (by try rw [b];kernel_rfl) c
  ·refine sO (g1 b 2222 (nd (h1 b) (op (.y (byteAt w0 (w64 (a - 1)))) (byte_ok w0 (w64 (a - 1)) (h1 b) (h2 b)) (g1 b 23 oN)))) [1,4] [(13,vB ((↑(UInt8.toNat (byteAt w0 (w64 (a - 1)))):Int) == 10))] ?_;exact Sem.cast (by try rw [b];kernel_rfl) c
theorem zfu (s0:zh) (res:Int) (fin:zh)
 (h:(∃ J2:Int→Prop,(∀ (c0:Int),J2 c0→(0≤c0)∧c0 < ↑(List.length (zd.Tables s0.Program).Start)∧(res=(gd (zd.Tables s0.Program).Start c0)∧fin=s0))∧(∃ a:Bool,zgg s0.W s0.At a∧(ck (a) (J2 (w64 (w64 (2 * s0.Cond)+1))) (J2 (w64 (2 * s0.Cond))))))):zbX s0 res fin:=by
 have kk:=cfOk [] 29;refine fE kk Tryz.func56 [(1,.ptr 3 0),(3,axs s0)] ?_;refine sO oN [] [] ?_;refine sO oN [] [(10,vi (w64 (2 * s0.Cond)))] ?_;obtain ⟨J2,b,h⟩:=h;refine sjE J2 [] (fun c0=>[(10,vi c0)]) ?_ ?_
 ·rintro c0 hj;have h:=b c0 hj;obtain ⟨h3,h⟩:=h;obtain ⟨h4,h⟩:=h;refine sO (xo za rfl h3 h4 oN) [1,10] [(7,vi (gd (zd.Tables s0.Program).Start c0))] ?_;refine tD ?_;obtain ⟨e,f⟩:=h;subst res fin;exact (endQ []).1
 ·obtain ⟨a,d,h⟩:=h;refine sO (ca d oN) [] [(52,vB a)] ?_;refine cH 17 h (fun c h=>?_) (fun c h=>?_)
  ·refine rO oN [52] [(10,vi (w64 (w64 (2 * s0.Cond)+1)))] ?_;exact jD (w64 (w64 (2 * s0.Cond)+1)) [] h
  ·refine kD ?_;exact jD (w64 (2 * s0.Cond)) [] h
theorem W_pack_Next (p:zk) (state:Int) (a:Int) (res:Int)
 (h:(∃ (c:Int→Prop) (d:Int→Nat),c state∧(∀ (s0:Int),c s0→(ck (s0 != (-1:Int)) ((0≤s0)∧s0 < ↑(List.length p.Base)∧((decide (w64 (gd p.Base s0+a) < (↑(List.length (List.map za p.Check)):Int)))=true→(0≤w64 (gd p.Base s0+a)))∧((decide (w64 (gd p.Base s0+a) < (↑(List.length (List.map za p.Check)):Int)))=true→w64 (gd p.Base s0+a) < ↑(List.length p.Check))∧(ck (decide (w64 (gd p.Base s0+a) < (↑(List.length (List.map za p.Check)):Int)) && gd p.Check (w64 (gd p.Base s0+a)) == s0) ((0≤w64 (gd p.Base s0+a))∧w64 (gd p.Base s0+a) < ↑(List.length p.Next)∧(res=(gd p.Next (w64 (gd p.Base s0+a))))) ((0≤s0)∧s0 < ↑(List.length p.Default)∧(c (gd p.Default s0)∧d (gd p.Default s0) < d s0)))) (res=(-1)))))):zge p state a res:=by
 have kk:=cfOk [] 43;refine fE kk Tryz.func91 [(1,zaI p),(4,vi state),(7,vi a)] ?_;refine sO oN [1] [(10,.ptr 20 0),(20,zaI p)] ?_;refine qD ?_;refine sO oN [4] [(22,vi state)] ?_;refine bD (id:=0) ?_;obtain ⟨c,d,e,f⟩:=h;refine loE [] (fun s0=>[(22,vi s0)]) c d state [] e ?_;rintro s0 hi;have h:=f s0 hi;refine qD ?_;refine sO oN [] [(34,vB (s0 != (-1:Int)))] ?_;refine cH 11 h (fun k h=>?_) (fun k h=>?_)
 ·refine kW [34] ?_;refine qD ?_;refine bD (id:=1) ?_;obtain ⟨t,h⟩:=h;obtain ⟨r,h⟩:=h;refine sO (xo za rfl t r oN) [] [(25,vi (w64 (gd p.Base s0+a)))] ?_;obtain ⟨l,u,h⟩:=h;refine sM [] [(112,vB (decide (w64 (gd p.Base s0+a) < (↑(List.length (List.map za p.Check)):Int)) && gd p.Check (w64 (gd p.Base s0+a)) == s0))] ?_ (fun j=>?_)
  ·refine cH 37 h (fun g h=>?_) (fun g h=>?_)
   ·obtain ⟨s,h⟩:=h;obtain ⟨o,h⟩:=h;refine sO (xo za rfl s o oN) [7,10,20,22,25,112] [(19,vi (gd p.Next (w64 (gd p.Base s0+a))))] ?_;refine tD ?_;subst h;exact (endQ []).1
   ·refine kW [25,112] ?_;obtain ⟨n,h⟩:=h;obtain ⟨m,h⟩:=h;refine rO (xo za rfl n m oN) [] [(22,vi (gd p.Default s0))] ?_;exact lD (gd p.Default s0) [] h
  ·rcases eft (decide (w64 (gd p.Base s0+a) < (↑(List.length (List.map za p.Check)):Int))) with b | b
   ·refine sO (g1 b 1111 (xo za rfl (l b) (u b) (g1 b 1113 oN))) [] [(112,vB (gd p.Check (w64 (gd p.Base s0+a)) == s0))] ?_;exact Sem.cast (by try rw [b];kernel_rfl) j
   ·refine sO (g1 b 11111113 oN) [] [(112,vB false)] ?_;exact Sem.cast (by try rw [b];kernel_rfl) j
 ·refine xD (i:=0) ?_;show Sem _ _ _ _ _;refine wkD [7,10,20,22,34] ?_;refine sO oN [] [(19,vi (-1))] ?_;refine tD ?_;subst h;exact (endQ []).1
theorem zf3 (state:Int) (a:Int) (s0:zh) (res:Int) (b:Int) (fin:zh)
 (h:(0≤a)∧a < ↑(ByteArray.size s0.W)∧(0≤(↑(UInt8.toNat (byteAt s0.W a)):Int))∧UInt8.toNat (byteAt s0.W a) < List.length (zd.Tables s0.Program).Map∧(∃ r0:Int,zge (zd.Tables s0.Program) state (List.getD (zd.Tables s0.Program).Map (UInt8.toNat (byteAt s0.W a)) default) r0∧(ck (r0 == (-1:Int)) (res=(-1)∧b=(-1)∧fin=s0) ((0≤r0)∧r0 < ↑(List.length (zd.Tables s0.Program).Accept)∧(res=r0∧b=(gd (zd.Tables s0.Program).Accept r0)∧fin=s0))))):zb9 state a s0 res b fin:=by
 have kk:=cfOk [31] 41;refine fE kk Tryz.func57 [(1,.ptr 3 0),(3,axs s0),(4,vi state),(7,vi a)] ?_;refine sO oN [] [] ?_;obtain ⟨h0,h⟩:=h;obtain ⟨h1,h⟩:=h;obtain ⟨h2,h⟩:=h;obtain ⟨h3,h⟩:=h;obtain ⟨r0,d,h⟩:=h;refine sO (nd h0 (op (.y (byteAt s0.W a)) (byte_ok s0.W a h0 h1) (nd h2 (el (show (List.map za (zd.Tables s0.Program).Map)[(Int.toNat (↑(UInt8.toNat (byteAt s0.W a)):Int):Nat)]?=some (fi (List.getD (zd.Tables s0.Program).Map (UInt8.toNat (byteAt s0.W a)) default)) from by have:=zbM za (zd.Tables s0.Program).Map (UInt8.toNat (byteAt s0.W a)) _ rfl h3;simpa only [nm,enq,za] using this) (ca d oN))))) [4,7] [(19,vi r0)] ?_;refine qD ?_;refine sO oN [] [(91,vB (r0 == (-1:Int)))] ?_;refine cH 30 h (fun c h=>?_) (fun c h=>?_)
 ·refine sO oN [1,91] [(19,vi (-1)),(22,vi (-1))] ?_;refine tD ?_;obtain ⟨e,g,f⟩:=h;subst res b fin;exact (endQ []).1
 ·refine kW [91] ?_;obtain ⟨h6,h⟩:=h;obtain ⟨h7,h⟩:=h;refine sO (xo za rfl h6 h7 oN) [1] [(22,vi (gd (zd.Tables s0.Program).Accept r0))] ?_;refine tD ?_;obtain ⟨e,g,f⟩:=h;subst res b fin;exact (endQ []).1
theorem zf2 (s0:zh) (res:Int) (r:Int) (fin:zh)
 (h:(∃ r0:Int,∃ o:zh,zbX s0 r0 o∧(∃ (n:zh→Int→Int→Int→Int→Prop) (s:zh→Int→Int→Int→Int→Nat),n o (-1) 0 r0 o.At∧(∀ (a:zh) (d:Int) (j:Int) (c:Int) (i:Int),n a d j c i→(ck (decide (i < (↑(ByteArray.size a.W):Int)) && c != (-1:Int)) (∃ u:zh→Int→Int→Int→Prop,(∀ (b:zh) (f:Int) (k:Int) (e:Int),u b f k e→(n b f k e (w64 (i+1))∧s b f k e (w64 (i+1)) < s a d j c i))∧(∃ m:Int,∃ l:Int,∃ g:zh,zb9 c i a m l g∧(ck (l != (-1:Int)) (u g l (w64 (w64 (i+1) - g.At)) m) (u g d j m)))) (res=d∧r=j∧fin=a)))))):zb8 s0 res r fin:=by
 have kk:=cfOk [35,43,44] 45;refine fE kk Tryz.func36 [(1,.ptr 3 0),(3,axs s0)] ?_;refine sO oN [] [(10,vi 0)] ?_;refine sO oN [] [(7,vi (-1))] ?_;obtain ⟨r0,o,E,h⟩:=h;refine sO (ca E oN) [] [(3,axs o),(13,vi r0)] ?_;refine qD ?_;refine sO oN [] [(16,vi o.At)] ?_;refine bD (id:=0) ?_;obtain ⟨n,s,t,v⟩:=h;refine loE [] (u5 fun a d j c i=>[(3,axs a),(7,vi d),(10,vi j),(13,vi c),(16,vi i)]) (u5 n) (u5 s) (o,(-1),0,r0,o.At) [] t ?_;rintro ⟨a,d,j,c,i⟩ hi;have h:=v a d j c i hi;refine qD ?_;refine sM [] [(70,vB (decide (i < (↑(ByteArray.size a.W):Int)) && c != (-1:Int)))] ?_ (fun B=>?_)
 ·refine cH 23 h (fun D h=>?_) (fun D h=>?_)
  ·refine kW [70] ?_;obtain ⟨u,y,h⟩:=h;refine sjE (u4 u) [] (u4 fun b f k e=>[(3,axs b),(7,vi f),(10,vi k),(13,vi e)]) ?_ ?_
   ·rintro ⟨b,f,k,e⟩ hj;have h:=y b f k e hj;refine rO oN [] [(16,vi (w64 (i+1)))] ?_;exact lD (b,f,k,e,(w64 (i+1))) [] h
   ·refine bD (id:=1) ?_;refine sO oN [] [] ?_;obtain ⟨m,l,g,w,h⟩:=h;refine sO (ca w oN) [] [(3,axs g),(13,vi m),(19,vi l)] ?_;refine sO oN [] [(103,vB (l != (-1:Int)))] ?_;refine cH 34 h (fun A h=>?_) (fun A h=>?_)
    ·refine rO oN [19,103] [(7,vi l),(10,vi (w64 (w64 (i+1) - g.At)))] ?_;exact jD (g,l,(w64 (w64 (i+1) - g.At)),m) [] h
    ·refine kD ?_;exact jD (g,d,j,m) [] h
  ·refine xD (i:=0) ?_;show Sem _ _ _ _ _;refine wkD [1,13,16,70] ?_;refine sO oN [] [] ?_;refine tD ?_;obtain ⟨F,H,I⟩:=h;subst res r fin;exact (endQ []).1
 ·rcases eft (decide (i < (↑(ByteArray.size a.W):Int))) with p | p
  ·refine sO (g1 p 113 oN) [] [(70,vB (c != (-1:Int)))] ?_;exact Sem.cast (by try rw [p];kernel_rfl) B
  ·refine sO (g1 p 113 oN) [] [(70,vB false)] ?_;exact Sem.cast (by try rw [p];kernel_rfl) B
theorem zgT (t:zC) (s0:zh) (fin:zh)
 (h:((List.length (zi.Tokens s0.Out)+1) * 32≤2 ^ 47)∧(fin=({ Program:=s0.Program,W:=s0.W,At:=t.End,Cond:=s0.Cond,Out:={ Tokens:=zi.Tokens s0.Out++[t],Jam:=zi.Jam s0.Out } }))):zbb t s0 fin:=by
 have kk:=cfOk [] 21;refine fE kk Tryz.func54 [(1,.ptr 3 0),(3,axs s0),(4,zc0 t)] ?_;refine sO oN [4] [(10,.ptr 20 0),(20,zc0 t)] ?_;obtain ⟨h0,h⟩:=h;refine sV (apo zp (zi.Tokens s0.Out) h0 oN) [] (show AV from .own 49 (List.map zp (zi.Tokens s0.Out)++[FV.agg [FV.pv (Value.int IntKind.i64 t.Rule),FV.pv (Value.int IntKind.i64 t.Start),FV.pv (Value.int IntKind.i64 t.End),FV.pv (Value.int IntKind.i64 t.Cond)]])) (oL 49 zp (zi.Tokens s0.Out++[t])) (fun q=>[(3,.agg [vL zn (zd.Spec s0.Program).Conds,vB (zd.Spec s0.Program).Default,vL zg (zd.Spec s0.Program).Rules,vL za (zd.Tables s0.Program).Map,vi (zd.Tables s0.Program).Width,vL za (zd.Tables s0.Program).Base,vL za (zd.Tables s0.Program).Default,vL za (zd.Tables s0.Program).Next,vL za (zd.Tables s0.Program).Check,vL za (zd.Tables s0.Program).Accept,vL za (zd.Tables s0.Program).Start,vS s0.W,vi s0.At,vi s0.Cond,q,vi (zi.Jam s0.Out)])]) ?_;refine rO oN [1,10,20] [(3,.agg [vL zn (zd.Spec s0.Program).Conds,vB (zd.Spec s0.Program).Default,vL zg (zd.Spec s0.Program).Rules,vL za (zd.Tables s0.Program).Map,vi (zd.Tables s0.Program).Width,vL za (zd.Tables s0.Program).Base,vL za (zd.Tables s0.Program).Default,vL za (zd.Tables s0.Program).Next,vL za (zd.Tables s0.Program).Check,vL za (zd.Tables s0.Program).Accept,vL za (zd.Tables s0.Program).Start,vS s0.W,vi t.End,vi s0.Cond,oL 49 zp (zi.Tokens s0.Out++[t]),vi (zi.Jam s0.Out)])] ?_;obtain he0:=h;subst fin;exact (endQ []).2
theorem zgW (x:zO) (res:Bool)
 (h:(ck (decide (x.Lo < 0) || decide (x.Lo > 20)) (res=false) (res=(x.Hi == (-1:Int) || decide (x.Hi≥if x.Lo > 1 then x.Lo else 1) && decide (x.Hi≤20))))):zcw x res:=by
 have kk:=cfOk [] 27;refine fE kk Tryz.func152 [(1,zS x)] ?_;refine sO oN [1] [(4,.ptr 8 0),(8,zS x)] ?_;refine qD ?_;refine sM [] [(31,vB (decide (x.Lo < 0) || decide (x.Lo > 20)))] ?_ (fun b=>?_)
 ·refine cH 10 h (fun e h=>?_) (fun e h=>?_)
  ·refine sO oN [4,8,31] [(7,vB false)] ?_;refine tD ?_;subst h;exact (endQ []).1
  ·refine kW [31] ?_;refine sM [4,8] [(7,vB (x.Hi == (-1:Int) || decide (x.Hi≥if true=true then if x.Lo > 1 then x.Lo else 1 else if x.Lo < 1 then x.Lo else 1) && decide (x.Hi≤20)))] ?_ (fun b=>?_)
   ·refine tD ?_;subst h;exact (endQ []).1
   ·rcases eft (x.Hi == (-1:Int)) with a | a
    ·refine sO (g1 a 222222223 oN) [4,8] [(7,vB true)] ?_;exact Sem.cast (by try rw [a];kernel_rfl) b
    ·rcases eft (decide (x.Hi≥if true=true then if x.Lo > 1 then x.Lo else 1 else if x.Lo < 1 then x.Lo else 1)) with d | d
     ·refine sO (g2 a d 2222222444263 oN) [4,8] [(7,vB (decide (x.Hi≤20)))] ?_;exact Sem.cast (by try rw [a];try rw [d];kernel_rfl) b
     ·refine sO (g2 a d 2222222444263 oN) [4,8] [(7,vB false)] ?_;exact Sem.cast (by try rw [a];try rw [d];kernel_rfl) b
 ·rcases eft (decide (x.Lo < 0)) with c | c
  ·refine sO (g1 c 2223 oN) [] [(31,vB true)] ?_;exact Sem.cast (by try rw [c];kernel_rfl) b
  ·refine sO (g1 c 2223 oN) [] [(31,vB (decide (x.Lo > 20)))] ?_;exact Sem.cast (by try rw [c];kernel_rfl) b
end Go.Ev
