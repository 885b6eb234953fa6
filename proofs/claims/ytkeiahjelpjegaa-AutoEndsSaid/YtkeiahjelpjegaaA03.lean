import Derived.Test.YtkeiahjelpjegaaA02
import Derived.Test.YtkeiahjelpjegaaProg
import Derived.Shelf.Small.Bits
import Derived.Shelf.Small.Wraps
import Derived.Shelf.Strconv.Itoa0
import Derived.Shelf.Sort.Plain
import Derived.Shelf.Slices.Turned
import Derived.Ground.Names2Prog
import Derived.Shelf.Slices.CompactI
import Derived.Shelf.Slices.SearchI
import Derived.Shelf.Slices.Cells
import Derived.Shelf.Slices.In.SortNone
import Derived.Shelf.Spec.SlicesGrow
import Derived.Lib.RowBridge
set_option linter.unusedSimpArgs false
set_option linter.unusedVariables false
namespace Go.Ev
open Go Go.Proofs
set_option maxRecDepth 8000
def enc_i64 (n:Int):FV:=.pv (.int .i64 n)
theorem fits_i64 (l:List Int):(List.map enc_i64 l).all (FV.fits 1)=true:=by simp [FV.fits,FV.size,FV.cells,FV.one,enc_i64]
def enc_bool (b:Bool):FV:=.pv (.bool b)
theorem fits_u8 (l:List Int):(List.map enc_u8 l).all (FV.fits 1)=true:=by simp [FV.fits,FV.size,FV.cells,FV.one,enc_u8]
structure runtime_boundsError where
 x:Int
 y:Int
 signed:Bool
 code:Int
 deriving Inhabited,DecidableEq
def enc_runtime_boundsError (x:runtime_boundsError):FV:=.agg [.pv (.int .i64 x.x),.pv (.int .i64 x.y),.pv (.bool x.signed),.pv (.int .u8 x.code)]
theorem enc_runtime_boundsError_eq (x:runtime_boundsError):enc_runtime_boundsError x=.agg [.pv (.int .i64 x.x),.pv (.int .i64 x.y),.pv (.bool x.signed),.pv (.int .u8 x.code)]:=rfl
abbrev fv_runtime_boundsError (x:runtime_boundsError):FV:=.agg [.pv (.int .i64 x.x),.pv (.int .i64 x.y),.pv (.bool x.signed),.pv (.int .u8 x.code)]
abbrev av_runtime_boundsError (x:runtime_boundsError):AV:=.agg [vI .i64 x.x,vI .i64 x.y,vB x.signed,vI .u8 x.code]
abbrev ao_runtime_boundsError (x:runtime_boundsError):AV:=.agg [vI .i64 x.x,vI .i64 x.y,vB x.signed,vI .u8 x.code]
def enc_string (s:ByteArray):FV:=.pv (.string s)
def enc_u64 (n:Int):FV:=.pv (.int .u64 n)
theorem fits_u64 (l:List Int):(List.map enc_u64 l).all (FV.fits 1)=true:=by simp [FV.fits,FV.size,FV.cells,FV.one,enc_u64]
structure runtime_errorAddressString where
 msg:ByteArray
 addr:Int
 deriving Inhabited,DecidableEq
def enc_runtime_errorAddressString (x:runtime_errorAddressString):FV:=.agg [.pv (.string x.msg),.pv (.int .u64 x.addr)]
theorem enc_runtime_errorAddressString_eq (x:runtime_errorAddressString):enc_runtime_errorAddressString x=.agg [.pv (.string x.msg),.pv (.int .u64 x.addr)]:=rfl
abbrev fv_runtime_errorAddressString (x:runtime_errorAddressString):FV:=.agg [.pv (.string x.msg),.pv (.int .u64 x.addr)]
abbrev av_runtime_errorAddressString (x:runtime_errorAddressString):AV:=.agg [vS x.msg,vI .u64 x.addr]
abbrev ao_runtime_errorAddressString (x:runtime_errorAddressString):AV:=.agg [vS x.msg,vI .u64 x.addr]
def enc_i32 (n:Int):FV:=.pv (.int .i32 n)
def encs_u8 (l:(List Int)):FV:=.sl (List.map enc_u8 l)
structure api_Cond where
 Name:ByteArray
 Exclusive:Bool
 deriving Inhabited,DecidableEq
def enc_api_Cond (x:api_Cond):FV:=.agg [.pv (.string x.Name),.pv (.bool x.Exclusive)]
theorem enc_api_Cond_eq (x:api_Cond):enc_api_Cond x=.agg [.pv (.string x.Name),.pv (.bool x.Exclusive)]:=rfl
abbrev fv_api_Cond (x:api_Cond):FV:=.agg [.pv (.string x.Name),.pv (.bool x.Exclusive)]
abbrev av_api_Cond (x:api_Cond):AV:=.agg [vS x.Name,vB x.Exclusive]
abbrev ao_api_Cond (x:api_Cond):AV:=.agg [vS x.Name,vB x.Exclusive]
def encs_api_Cond (l:(List api_Cond)):FV:=.sl (List.map enc_api_Cond l)
def encs_i64 (l:(List Int)):FV:=.sl (List.map enc_i64 l)
structure arr4_uint64 where
 e0:Int
 e1:Int
 e2:Int
 e3:Int
 deriving Inhabited,DecidableEq
def enc_arr4_uint64 (x:arr4_uint64):FV:=.agg [.pv (.int .u64 x.e0),.pv (.int .u64 x.e1),.pv (.int .u64 x.e2),.pv (.int .u64 x.e3)]
theorem enc_arr4_uint64_eq (x:arr4_uint64):enc_arr4_uint64 x=.agg [.pv (.int .u64 x.e0),.pv (.int .u64 x.e1),.pv (.int .u64 x.e2),.pv (.int .u64 x.e3)]:=rfl
theorem fits_arr4_uint64 (l:List arr4_uint64):(List.map enc_arr4_uint64 l).all (FV.fits 4)=true:=by simp [FV.fits,FV.size,FV.cells,FV.one,enc_arr4_uint64_eq]
abbrev fv_arr4_uint64 (x:arr4_uint64):FV:=.agg [.pv (.int .u64 x.e0),.pv (.int .u64 x.e1),.pv (.int .u64 x.e2),.pv (.int .u64 x.e3)]
abbrev av_arr4_uint64 (x:arr4_uint64):AV:=.agg [vI .u64 x.e0,vI .u64 x.e1,vI .u64 x.e2,vI .u64 x.e3]
abbrev ao_arr4_uint64 (x:arr4_uint64):AV:=.agg [vI .u64 x.e0,vI .u64 x.e1,vI .u64 x.e2,vI .u64 x.e3]
structure api_Rx where
 Kind:Int
 Set:arr4_uint64
 Lo:Int
 Hi:Int
 Kids:(List api_Rx)
 deriving Inhabited
def enc_api_Rx:api_Rx→FV
 | ⟨a_Kind,a_Set,a_Lo,a_Hi,a_Kids⟩=>.agg [.pv (.int .i64 a_Kind),.pv (.int .u64 a_Set.e0),.pv (.int .u64 a_Set.e1),.pv (.int .u64 a_Set.e2),.pv (.int .u64 a_Set.e3),.pv (.int .i64 a_Lo),.pv (.int .i64 a_Hi),.sl (List.map enc_api_Rx a_Kids)]
theorem enc_api_Rx_eq (x:api_Rx):enc_api_Rx x=.agg [.pv (.int .i64 x.Kind),.pv (.int .u64 x.Set.e0),.pv (.int .u64 x.Set.e1),.pv (.int .u64 x.Set.e2),.pv (.int .u64 x.Set.e3),.pv (.int .i64 x.Lo),.pv (.int .i64 x.Hi),.sl (List.map enc_api_Rx x.Kids)]:=by cases x;rw [enc_api_Rx]
theorem fits_api_Rx (l:List api_Rx):(List.map enc_api_Rx l).all (FV.fits 8)=true:=by simp [FV.fits,FV.size,FV.cells,FV.one,enc_api_Rx_eq]
abbrev fv_api_Rx (x:api_Rx):FV:=.agg [.pv (.int .i64 x.Kind),.pv (.int .u64 x.Set.e0),.pv (.int .u64 x.Set.e1),.pv (.int .u64 x.Set.e2),.pv (.int .u64 x.Set.e3),.pv (.int .i64 x.Lo),.pv (.int .i64 x.Hi),.sl (List.map enc_api_Rx x.Kids)]
abbrev av_api_Rx (x:api_Rx):AV:=.agg [vI .i64 x.Kind,vI .u64 x.Set.e0,vI .u64 x.Set.e1,vI .u64 x.Set.e2,vI .u64 x.Set.e3,vI .i64 x.Lo,vI .i64 x.Hi,vL enc_api_Rx x.Kids]
abbrev ao_api_Rx (x:api_Rx):AV:=.agg [vI .i64 x.Kind,vI .u64 x.Set.e0,vI .u64 x.Set.e1,vI .u64 x.Set.e2,vI .u64 x.Set.e3,vI .i64 x.Lo,vI .i64 x.Hi,oL 36 enc_api_Rx x.Kids]
structure api_Rule where
 Conds:(List Int)
 All:Bool
 Bol:Bool
 Rx:api_Rx
 Trail:api_Rx
 Eof:Bool
 Act:Int
 To:Int
 deriving Inhabited
def enc_api_Rule (x:api_Rule):FV:=.agg [.sl (List.map enc_i64 x.Conds),.pv (.bool x.All),.pv (.bool x.Bol),.pv (.int .i64 x.Rx.Kind),.pv (.int .u64 x.Rx.Set.e0),.pv (.int .u64 x.Rx.Set.e1),.pv (.int .u64 x.Rx.Set.e2),.pv (.int .u64 x.Rx.Set.e3),.pv (.int .i64 x.Rx.Lo),.pv (.int .i64 x.Rx.Hi),.sl (List.map enc_api_Rx x.Rx.Kids),.pv (.int .i64 x.Trail.Kind),.pv (.int .u64 x.Trail.Set.e0),.pv (.int .u64 x.Trail.Set.e1),.pv (.int .u64 x.Trail.Set.e2),.pv (.int .u64 x.Trail.Set.e3),.pv (.int .i64 x.Trail.Lo),.pv (.int .i64 x.Trail.Hi),.sl (List.map enc_api_Rx x.Trail.Kids),.pv (.bool x.Eof),.pv (.int .i64 x.Act),.pv (.int .i64 x.To)]
theorem enc_api_Rule_eq (x:api_Rule):enc_api_Rule x=.agg [.sl (List.map enc_i64 x.Conds),.pv (.bool x.All),.pv (.bool x.Bol),.pv (.int .i64 x.Rx.Kind),.pv (.int .u64 x.Rx.Set.e0),.pv (.int .u64 x.Rx.Set.e1),.pv (.int .u64 x.Rx.Set.e2),.pv (.int .u64 x.Rx.Set.e3),.pv (.int .i64 x.Rx.Lo),.pv (.int .i64 x.Rx.Hi),.sl (List.map enc_api_Rx x.Rx.Kids),.pv (.int .i64 x.Trail.Kind),.pv (.int .u64 x.Trail.Set.e0),.pv (.int .u64 x.Trail.Set.e1),.pv (.int .u64 x.Trail.Set.e2),.pv (.int .u64 x.Trail.Set.e3),.pv (.int .i64 x.Trail.Lo),.pv (.int .i64 x.Trail.Hi),.sl (List.map enc_api_Rx x.Trail.Kids),.pv (.bool x.Eof),.pv (.int .i64 x.Act),.pv (.int .i64 x.To)]:=rfl
abbrev fv_api_Rule (x:api_Rule):FV:=.agg [.sl (List.map enc_i64 x.Conds),.pv (.bool x.All),.pv (.bool x.Bol),.pv (.int .i64 x.Rx.Kind),.pv (.int .u64 x.Rx.Set.e0),.pv (.int .u64 x.Rx.Set.e1),.pv (.int .u64 x.Rx.Set.e2),.pv (.int .u64 x.Rx.Set.e3),.pv (.int .i64 x.Rx.Lo),.pv (.int .i64 x.Rx.Hi),.sl (List.map enc_api_Rx x.Rx.Kids),.pv (.int .i64 x.Trail.Kind),.pv (.int .u64 x.Trail.Set.e0),.pv (.int .u64 x.Trail.Set.e1),.pv (.int .u64 x.Trail.Set.e2),.pv (.int .u64 x.Trail.Set.e3),.pv (.int .i64 x.Trail.Lo),.pv (.int .i64 x.Trail.Hi),.sl (List.map enc_api_Rx x.Trail.Kids),.pv (.bool x.Eof),.pv (.int .i64 x.Act),.pv (.int .i64 x.To)]
abbrev av_api_Rule (x:api_Rule):AV:=.agg [vL enc_i64 x.Conds,vB x.All,vB x.Bol,vI .i64 x.Rx.Kind,vI .u64 x.Rx.Set.e0,vI .u64 x.Rx.Set.e1,vI .u64 x.Rx.Set.e2,vI .u64 x.Rx.Set.e3,vI .i64 x.Rx.Lo,vI .i64 x.Rx.Hi,vL enc_api_Rx x.Rx.Kids,vI .i64 x.Trail.Kind,vI .u64 x.Trail.Set.e0,vI .u64 x.Trail.Set.e1,vI .u64 x.Trail.Set.e2,vI .u64 x.Trail.Set.e3,vI .i64 x.Trail.Lo,vI .i64 x.Trail.Hi,vL enc_api_Rx x.Trail.Kids,vB x.Eof,vI .i64 x.Act,vI .i64 x.To]
abbrev ao_api_Rule (x:api_Rule):AV:=.agg [oL 3 enc_i64 x.Conds,vB x.All,vB x.Bol,vI .i64 x.Rx.Kind,vI .u64 x.Rx.Set.e0,vI .u64 x.Rx.Set.e1,vI .u64 x.Rx.Set.e2,vI .u64 x.Rx.Set.e3,vI .i64 x.Rx.Lo,vI .i64 x.Rx.Hi,oL 36 enc_api_Rx x.Rx.Kids,vI .i64 x.Trail.Kind,vI .u64 x.Trail.Set.e0,vI .u64 x.Trail.Set.e1,vI .u64 x.Trail.Set.e2,vI .u64 x.Trail.Set.e3,vI .i64 x.Trail.Lo,vI .i64 x.Trail.Hi,oL 36 enc_api_Rx x.Trail.Kids,vB x.Eof,vI .i64 x.Act,vI .i64 x.To]
def encs_api_Rule (l:(List api_Rule)):FV:=.sl (List.map enc_api_Rule l)
structure api_Spec where
 Conds:(List api_Cond)
 Default:Bool
 Rules:(List api_Rule)
 deriving Inhabited
def enc_api_Spec (x:api_Spec):FV:=.agg [.sl (List.map enc_api_Cond x.Conds),.pv (.bool x.Default),.sl (List.map enc_api_Rule x.Rules)]
theorem enc_api_Spec_eq (x:api_Spec):enc_api_Spec x=.agg [.sl (List.map enc_api_Cond x.Conds),.pv (.bool x.Default),.sl (List.map enc_api_Rule x.Rules)]:=rfl
abbrev fv_api_Spec (x:api_Spec):FV:=.agg [.sl (List.map enc_api_Cond x.Conds),.pv (.bool x.Default),.sl (List.map enc_api_Rule x.Rules)]
abbrev av_api_Spec (x:api_Spec):AV:=.agg [vL enc_api_Cond x.Conds,vB x.Default,vL enc_api_Rule x.Rules]
abbrev ao_api_Spec (x:api_Spec):AV:=.agg [oL 69 enc_api_Cond x.Conds,vB x.Default,oL 38 enc_api_Rule x.Rules]
def encs_api_Rx (l:(List api_Rx)):FV:=.sl (List.map enc_api_Rx l)
def encs_bool (l:(List Bool)):FV:=.sl (List.map enc_bool l)
def encs_arr4_uint64 (l:(List arr4_uint64)):FV:=.sl (List.map enc_arr4_uint64 l)
def encs__i64 (l:(List (List Int))):FV:=.sl (List.map encs_i64 l)
structure api_Auto where
 Sets:(List arr4_uint64)
 Owner:(List Int)
 Follow:(List (List Int))
 Ends:(List Bool)
 Starts:(List (List Int))
 deriving Inhabited,DecidableEq
def enc_api_Auto (x:api_Auto):FV:=.agg [.sl (List.map enc_arr4_uint64 x.Sets),.sl (List.map enc_i64 x.Owner),.sl (List.map encs_i64 x.Follow),.sl (List.map enc_bool x.Ends),.sl (List.map encs_i64 x.Starts)]
theorem enc_api_Auto_eq (x:api_Auto):enc_api_Auto x=.agg [.sl (List.map enc_arr4_uint64 x.Sets),.sl (List.map enc_i64 x.Owner),.sl (List.map encs_i64 x.Follow),.sl (List.map enc_bool x.Ends),.sl (List.map encs_i64 x.Starts)]:=rfl
abbrev fv_api_Auto (x:api_Auto):FV:=.agg [.sl (List.map enc_arr4_uint64 x.Sets),.sl (List.map enc_i64 x.Owner),.sl (List.map encs_i64 x.Follow),.sl (List.map enc_bool x.Ends),.sl (List.map encs_i64 x.Starts)]
abbrev av_api_Auto (x:api_Auto):AV:=.agg [vL enc_arr4_uint64 x.Sets,vL enc_i64 x.Owner,vL encs_i64 x.Follow,vL enc_bool x.Ends,vL encs_i64 x.Starts]
abbrev ao_api_Auto (x:api_Auto):AV:=.agg [oL 33 enc_arr4_uint64 x.Sets,oL 3 enc_i64 x.Owner,oL 30 encs_i64 x.Follow,oL 4 enc_bool x.Ends,oL 30 encs_i64 x.Starts]
structure hecklelaw03_Maker where
 L:(List Int)
 At:Int
 deriving Inhabited,DecidableEq
def enc_hecklelaw03_Maker (x:hecklelaw03_Maker):FV:=.agg [.sl (List.map enc_u8 x.L),.pv (.int .i64 x.At)]
theorem enc_hecklelaw03_Maker_eq (x:hecklelaw03_Maker):enc_hecklelaw03_Maker x=.agg [.sl (List.map enc_u8 x.L),.pv (.int .i64 x.At)]:=rfl
abbrev fv_hecklelaw03_Maker (x:hecklelaw03_Maker):FV:=.agg [.sl (List.map enc_u8 x.L),.pv (.int .i64 x.At)]
abbrev av_hecklelaw03_Maker (x:hecklelaw03_Maker):AV:=.agg [vL enc_u8 x.L,vI .i64 x.At]
abbrev ao_hecklelaw03_Maker (x:hecklelaw03_Maker):AV:=.agg [oL 5 enc_u8 x.L,vI .i64 x.At]
structure auto_builder where
 Auto:api_Auto
 deriving Inhabited,DecidableEq
def enc_auto_builder (x:auto_builder):FV:=.agg [.sl (List.map enc_arr4_uint64 x.Auto.Sets),.sl (List.map enc_i64 x.Auto.Owner),.sl (List.map encs_i64 x.Auto.Follow),.sl (List.map enc_bool x.Auto.Ends),.sl (List.map encs_i64 x.Auto.Starts)]
theorem enc_auto_builder_eq (x:auto_builder):enc_auto_builder x=.agg [.sl (List.map enc_arr4_uint64 x.Auto.Sets),.sl (List.map enc_i64 x.Auto.Owner),.sl (List.map encs_i64 x.Auto.Follow),.sl (List.map enc_bool x.Auto.Ends),.sl (List.map encs_i64 x.Auto.Starts)]:=rfl
abbrev fv_auto_builder (x:auto_builder):FV:=.agg [.sl (List.map enc_arr4_uint64 x.Auto.Sets),.sl (List.map enc_i64 x.Auto.Owner),.sl (List.map encs_i64 x.Auto.Follow),.sl (List.map enc_bool x.Auto.Ends),.sl (List.map encs_i64 x.Auto.Starts)]
abbrev av_auto_builder (x:auto_builder):AV:=.agg [vL enc_arr4_uint64 x.Auto.Sets,vL enc_i64 x.Auto.Owner,vL encs_i64 x.Auto.Follow,vL enc_bool x.Auto.Ends,vL encs_i64 x.Auto.Starts]
abbrev ao_auto_builder (x:auto_builder):AV:=.agg [oL 33 enc_arr4_uint64 x.Auto.Sets,oL 3 enc_i64 x.Auto.Owner,oL 30 encs_i64 x.Auto.Follow,oL 4 enc_bool x.Auto.Ends,oL 30 encs_i64 x.Auto.Starts]
structure rx_pattern where
 Kind:Int
 Set:arr4_uint64
 Lo:Int
 Hi:Int
 Kids:(List api_Rx)
 deriving Inhabited
def enc_rx_pattern (x:rx_pattern):FV:=.agg [.pv (.int .i64 x.Kind),.pv (.int .u64 x.Set.e0),.pv (.int .u64 x.Set.e1),.pv (.int .u64 x.Set.e2),.pv (.int .u64 x.Set.e3),.pv (.int .i64 x.Lo),.pv (.int .i64 x.Hi),.sl (List.map enc_api_Rx x.Kids)]
theorem enc_rx_pattern_eq (x:rx_pattern):enc_rx_pattern x=.agg [.pv (.int .i64 x.Kind),.pv (.int .u64 x.Set.e0),.pv (.int .u64 x.Set.e1),.pv (.int .u64 x.Set.e2),.pv (.int .u64 x.Set.e3),.pv (.int .i64 x.Lo),.pv (.int .i64 x.Hi),.sl (List.map enc_api_Rx x.Kids)]:=rfl
abbrev fv_rx_pattern (x:rx_pattern):FV:=.agg [.pv (.int .i64 x.Kind),.pv (.int .u64 x.Set.e0),.pv (.int .u64 x.Set.e1),.pv (.int .u64 x.Set.e2),.pv (.int .u64 x.Set.e3),.pv (.int .i64 x.Lo),.pv (.int .i64 x.Hi),.sl (List.map enc_api_Rx x.Kids)]
abbrev av_rx_pattern (x:rx_pattern):AV:=.agg [vI .i64 x.Kind,vI .u64 x.Set.e0,vI .u64 x.Set.e1,vI .u64 x.Set.e2,vI .u64 x.Set.e3,vI .i64 x.Lo,vI .i64 x.Hi,vL enc_api_Rx x.Kids]
abbrev ao_rx_pattern (x:rx_pattern):AV:=.agg [vI .i64 x.Kind,vI .u64 x.Set.e0,vI .u64 x.Set.e1,vI .u64 x.Set.e2,vI .u64 x.Set.e3,vI .i64 x.Lo,vI .i64 x.Hi,oL 36 enc_api_Rx x.Kids]
structure api_Places where
 Sets:(List arr4_uint64)
 First:(List Int)
 Last:(List Int)
 Follow:(List (List Int))
 Null:Bool
 deriving Inhabited,DecidableEq
def enc_api_Places (x:api_Places):FV:=.agg [.sl (List.map enc_arr4_uint64 x.Sets),.sl (List.map enc_i64 x.First),.sl (List.map enc_i64 x.Last),.sl (List.map encs_i64 x.Follow),.pv (.bool x.Null)]
theorem enc_api_Places_eq (x:api_Places):enc_api_Places x=.agg [.sl (List.map enc_arr4_uint64 x.Sets),.sl (List.map enc_i64 x.First),.sl (List.map enc_i64 x.Last),.sl (List.map encs_i64 x.Follow),.pv (.bool x.Null)]:=rfl
abbrev fv_api_Places (x:api_Places):FV:=.agg [.sl (List.map enc_arr4_uint64 x.Sets),.sl (List.map enc_i64 x.First),.sl (List.map enc_i64 x.Last),.sl (List.map encs_i64 x.Follow),.pv (.bool x.Null)]
abbrev av_api_Places (x:api_Places):AV:=.agg [vL enc_arr4_uint64 x.Sets,vL enc_i64 x.First,vL enc_i64 x.Last,vL encs_i64 x.Follow,vB x.Null]
abbrev ao_api_Places (x:api_Places):AV:=.agg [oL 33 enc_arr4_uint64 x.Sets,oL 3 enc_i64 x.First,oL 3 enc_i64 x.Last,oL 30 encs_i64 x.Follow,vB x.Null]
structure struct121 where
 deriving Inhabited,DecidableEq
def enc_struct121 (x:struct121):FV:=.agg []
theorem enc_struct121_eq (x:struct121):enc_struct121 x=.agg []:=rfl
abbrev fv_struct121 (x:struct121):FV:=.agg []
abbrev av_struct121 (x:struct121):AV:=.agg []
abbrev ao_struct121 (x:struct121):AV:=.agg []
structure spec_rule where
 Conds:(List Int)
 All:Bool
 Bol:Bool
 Rx:api_Rx
 Trail:api_Rx
 Eof:Bool
 Act:Int
 To:Int
 deriving Inhabited
def enc_spec_rule (x:spec_rule):FV:=.agg [.sl (List.map enc_i64 x.Conds),.pv (.bool x.All),.pv (.bool x.Bol),.pv (.int .i64 x.Rx.Kind),.pv (.int .u64 x.Rx.Set.e0),.pv (.int .u64 x.Rx.Set.e1),.pv (.int .u64 x.Rx.Set.e2),.pv (.int .u64 x.Rx.Set.e3),.pv (.int .i64 x.Rx.Lo),.pv (.int .i64 x.Rx.Hi),.sl (List.map enc_api_Rx x.Rx.Kids),.pv (.int .i64 x.Trail.Kind),.pv (.int .u64 x.Trail.Set.e0),.pv (.int .u64 x.Trail.Set.e1),.pv (.int .u64 x.Trail.Set.e2),.pv (.int .u64 x.Trail.Set.e3),.pv (.int .i64 x.Trail.Lo),.pv (.int .i64 x.Trail.Hi),.sl (List.map enc_api_Rx x.Trail.Kids),.pv (.bool x.Eof),.pv (.int .i64 x.Act),.pv (.int .i64 x.To)]
theorem enc_spec_rule_eq (x:spec_rule):enc_spec_rule x=.agg [.sl (List.map enc_i64 x.Conds),.pv (.bool x.All),.pv (.bool x.Bol),.pv (.int .i64 x.Rx.Kind),.pv (.int .u64 x.Rx.Set.e0),.pv (.int .u64 x.Rx.Set.e1),.pv (.int .u64 x.Rx.Set.e2),.pv (.int .u64 x.Rx.Set.e3),.pv (.int .i64 x.Rx.Lo),.pv (.int .i64 x.Rx.Hi),.sl (List.map enc_api_Rx x.Rx.Kids),.pv (.int .i64 x.Trail.Kind),.pv (.int .u64 x.Trail.Set.e0),.pv (.int .u64 x.Trail.Set.e1),.pv (.int .u64 x.Trail.Set.e2),.pv (.int .u64 x.Trail.Set.e3),.pv (.int .i64 x.Trail.Lo),.pv (.int .i64 x.Trail.Hi),.sl (List.map enc_api_Rx x.Trail.Kids),.pv (.bool x.Eof),.pv (.int .i64 x.Act),.pv (.int .i64 x.To)]:=rfl
abbrev fv_spec_rule (x:spec_rule):FV:=.agg [.sl (List.map enc_i64 x.Conds),.pv (.bool x.All),.pv (.bool x.Bol),.pv (.int .i64 x.Rx.Kind),.pv (.int .u64 x.Rx.Set.e0),.pv (.int .u64 x.Rx.Set.e1),.pv (.int .u64 x.Rx.Set.e2),.pv (.int .u64 x.Rx.Set.e3),.pv (.int .i64 x.Rx.Lo),.pv (.int .i64 x.Rx.Hi),.sl (List.map enc_api_Rx x.Rx.Kids),.pv (.int .i64 x.Trail.Kind),.pv (.int .u64 x.Trail.Set.e0),.pv (.int .u64 x.Trail.Set.e1),.pv (.int .u64 x.Trail.Set.e2),.pv (.int .u64 x.Trail.Set.e3),.pv (.int .i64 x.Trail.Lo),.pv (.int .i64 x.Trail.Hi),.sl (List.map enc_api_Rx x.Trail.Kids),.pv (.bool x.Eof),.pv (.int .i64 x.Act),.pv (.int .i64 x.To)]
abbrev av_spec_rule (x:spec_rule):AV:=.agg [vL enc_i64 x.Conds,vB x.All,vB x.Bol,vI .i64 x.Rx.Kind,vI .u64 x.Rx.Set.e0,vI .u64 x.Rx.Set.e1,vI .u64 x.Rx.Set.e2,vI .u64 x.Rx.Set.e3,vI .i64 x.Rx.Lo,vI .i64 x.Rx.Hi,vL enc_api_Rx x.Rx.Kids,vI .i64 x.Trail.Kind,vI .u64 x.Trail.Set.e0,vI .u64 x.Trail.Set.e1,vI .u64 x.Trail.Set.e2,vI .u64 x.Trail.Set.e3,vI .i64 x.Trail.Lo,vI .i64 x.Trail.Hi,vL enc_api_Rx x.Trail.Kids,vB x.Eof,vI .i64 x.Act,vI .i64 x.To]
abbrev ao_spec_rule (x:spec_rule):AV:=.agg [oL 3 enc_i64 x.Conds,vB x.All,vB x.Bol,vI .i64 x.Rx.Kind,vI .u64 x.Rx.Set.e0,vI .u64 x.Rx.Set.e1,vI .u64 x.Rx.Set.e2,vI .u64 x.Rx.Set.e3,vI .i64 x.Rx.Lo,vI .i64 x.Rx.Hi,oL 36 enc_api_Rx x.Rx.Kids,vI .i64 x.Trail.Kind,vI .u64 x.Trail.Set.e0,vI .u64 x.Trail.Set.e1,vI .u64 x.Trail.Set.e2,vI .u64 x.Trail.Set.e3,vI .i64 x.Trail.Lo,vI .i64 x.Trail.Hi,oL 36 enc_api_Rx x.Trail.Kids,vB x.Eof,vI .i64 x.Act,vI .i64 x.To]
structure place_builder where
 sets:(List arr4_uint64)
 follow:(List (List Int))
 deriving Inhabited,DecidableEq
def enc_place_builder (x:place_builder):FV:=.agg [.sl (List.map enc_arr4_uint64 x.sets),.sl (List.map encs_i64 x.follow)]
theorem enc_place_builder_eq (x:place_builder):enc_place_builder x=.agg [.sl (List.map enc_arr4_uint64 x.sets),.sl (List.map encs_i64 x.follow)]:=rfl
abbrev fv_place_builder (x:place_builder):FV:=.agg [.sl (List.map enc_arr4_uint64 x.sets),.sl (List.map encs_i64 x.follow)]
abbrev av_place_builder (x:place_builder):AV:=.agg [vL enc_arr4_uint64 x.sets,vL encs_i64 x.follow]
abbrev ao_place_builder (x:place_builder):AV:=.agg [oL 33 enc_arr4_uint64 x.sets,oL 30 encs_i64 x.follow]
structure place_piece where
 first:(List Int)
 last:(List Int)
 null:Bool
 deriving Inhabited,DecidableEq
def enc_place_piece (x:place_piece):FV:=.agg [.sl (List.map enc_i64 x.first),.sl (List.map enc_i64 x.last),.pv (.bool x.null)]
theorem enc_place_piece_eq (x:place_piece):enc_place_piece x=.agg [.sl (List.map enc_i64 x.first),.sl (List.map enc_i64 x.last),.pv (.bool x.null)]:=rfl
abbrev fv_place_piece (x:place_piece):FV:=.agg [.sl (List.map enc_i64 x.first),.sl (List.map enc_i64 x.last),.pv (.bool x.null)]
abbrev av_place_piece (x:place_piece):AV:=.agg [vL enc_i64 x.first,vL enc_i64 x.last,vB x.null]
abbrev ao_place_piece (x:place_piece):AV:=.agg [oL 3 enc_i64 x.first,oL 3 enc_i64 x.last,vB x.null]
structure arr2_int where
 e0:Int
 e1:Int
 deriving Inhabited,DecidableEq
def enc_arr2_int (x:arr2_int):FV:=.agg [.pv (.int .i64 x.e0),.pv (.int .i64 x.e1)]
theorem enc_arr2_int_eq (x:arr2_int):enc_arr2_int x=.agg [.pv (.int .i64 x.e0),.pv (.int .i64 x.e1)]:=rfl
abbrev fv_arr2_int (x:arr2_int):FV:=.agg [.pv (.int .i64 x.e0),.pv (.int .i64 x.e1)]
abbrev av_arr2_int (x:arr2_int):AV:=.agg [vI .i64 x.e0,vI .i64 x.e1]
abbrev ao_arr2_int (x:arr2_int):AV:=.agg [vI .i64 x.e0,vI .i64 x.e1]
def encs_arr2_int (l:(List arr2_int)):FV:=.sl (List.map enc_arr2_int l)
def encs_place_piece (l:(List place_piece)):FV:=.sl (List.map enc_place_piece l)
def enc_u32 (n:Int):FV:=.pv (.int .u32 n)
def encm_string_set (x:ByteArray):FV:=.agg [.pv (.string x),.agg []]
theorem putencm_string_set (k:ByteArray) (l:List ByteArray):putE (.string k) (.agg []) (List.map encm_string_set l)=List.map encm_string_set (sput k l):=putE_set (fun k=>.string k) encm_string_set (fun _=>rfl) (fun a b=>by first | exact keyEq_str a b | exact keyEq_int _ _ a b) k l
theorem keysencm_string_set (l:List ByteArray):(List.map encm_string_set l).all (keyIs .string)=true:=by simp [keyIs,keyV,encm_string_set]
def encs__string_set (l:(List ByteArray)):FV:=.sl (List.map encm_string_set l)
theorem strElems_ints (s:ByteArray):strElems s=List.map enc_u8 (strInts s):=strElems_of s _ fun _=>rfl
theorem enq:(∀ n:Int,enc_i64 n=.pv (.int .i64 n))∧
 (∀ n:Bool,enc_bool n=.pv (.bool n))∧
 (∀ n:Int,enc_u8 n=.pv (.int .u8 n))∧
 (∀ x:runtime_boundsError,enc_runtime_boundsError x=.agg [.pv (.int .i64 x.x),.pv (.int .i64 x.y),.pv (.bool x.signed),.pv (.int .u8 x.code)])∧
 (∀ x:runtime_boundsError,fv_runtime_boundsError x=.agg [.pv (.int .i64 x.x),.pv (.int .i64 x.y),.pv (.bool x.signed),.pv (.int .u8 x.code)])∧
 (∀ x:runtime_boundsError,av_runtime_boundsError x=.agg [vI .i64 x.x,vI .i64 x.y,vB x.signed,vI .u8 x.code])∧
 (∀ x:runtime_boundsError,ao_runtime_boundsError x=.agg [vI .i64 x.x,vI .i64 x.y,vB x.signed,vI .u8 x.code])∧
 (∀ n:ByteArray,enc_string n=.pv (.string n))∧
 (∀ n:Int,enc_u64 n=.pv (.int .u64 n))∧
 (∀ x:runtime_errorAddressString,enc_runtime_errorAddressString x=.agg [.pv (.string x.msg),.pv (.int .u64 x.addr)])∧
 (∀ x:runtime_errorAddressString,fv_runtime_errorAddressString x=.agg [.pv (.string x.msg),.pv (.int .u64 x.addr)])∧
 (∀ x:runtime_errorAddressString,av_runtime_errorAddressString x=.agg [vS x.msg,vI .u64 x.addr])∧
 (∀ x:runtime_errorAddressString,ao_runtime_errorAddressString x=.agg [vS x.msg,vI .u64 x.addr])∧
 (∀ n:Int,enc_i32 n=.pv (.int .i32 n))∧
 (∀ l:(List Int),encs_u8 l=.sl (List.map enc_u8 l))∧
 (∀ x:api_Cond,enc_api_Cond x=.agg [.pv (.string x.Name),.pv (.bool x.Exclusive)])∧
 (∀ x:api_Cond,fv_api_Cond x=.agg [.pv (.string x.Name),.pv (.bool x.Exclusive)])∧
 (∀ x:api_Cond,av_api_Cond x=.agg [vS x.Name,vB x.Exclusive])∧
 (∀ x:api_Cond,ao_api_Cond x=.agg [vS x.Name,vB x.Exclusive])∧
 (∀ l:(List api_Cond),encs_api_Cond l=.sl (List.map enc_api_Cond l))∧
 (∀ l:(List Int),encs_i64 l=.sl (List.map enc_i64 l))∧
 (∀ x:arr4_uint64,enc_arr4_uint64 x=.agg [.pv (.int .u64 x.e0),.pv (.int .u64 x.e1),.pv (.int .u64 x.e2),.pv (.int .u64 x.e3)])∧
 (∀ x:arr4_uint64,fv_arr4_uint64 x=.agg [.pv (.int .u64 x.e0),.pv (.int .u64 x.e1),.pv (.int .u64 x.e2),.pv (.int .u64 x.e3)])∧
 (∀ x:arr4_uint64,av_arr4_uint64 x=.agg [vI .u64 x.e0,vI .u64 x.e1,vI .u64 x.e2,vI .u64 x.e3])∧
 (∀ x:arr4_uint64,ao_arr4_uint64 x=.agg [vI .u64 x.e0,vI .u64 x.e1,vI .u64 x.e2,vI .u64 x.e3])∧
 (∀ x:api_Rx,enc_api_Rx x=.agg [.pv (.int .i64 x.Kind),.pv (.int .u64 x.Set.e0),.pv (.int .u64 x.Set.e1),.pv (.int .u64 x.Set.e2),.pv (.int .u64 x.Set.e3),.pv (.int .i64 x.Lo),.pv (.int .i64 x.Hi),.sl (List.map enc_api_Rx x.Kids)])∧
 (∀ x:api_Rx,fv_api_Rx x=.agg [.pv (.int .i64 x.Kind),.pv (.int .u64 x.Set.e0),.pv (.int .u64 x.Set.e1),.pv (.int .u64 x.Set.e2),.pv (.int .u64 x.Set.e3),.pv (.int .i64 x.Lo),.pv (.int .i64 x.Hi),.sl (List.map enc_api_Rx x.Kids)])∧
 (∀ x:api_Rx,av_api_Rx x=.agg [vI .i64 x.Kind,vI .u64 x.Set.e0,vI .u64 x.Set.e1,vI .u64 x.Set.e2,vI .u64 x.Set.e3,vI .i64 x.Lo,vI .i64 x.Hi,vL enc_api_Rx x.Kids])∧
 (∀ x:api_Rx,ao_api_Rx x=.agg [vI .i64 x.Kind,vI .u64 x.Set.e0,vI .u64 x.Set.e1,vI .u64 x.Set.e2,vI .u64 x.Set.e3,vI .i64 x.Lo,vI .i64 x.Hi,oL 36 enc_api_Rx x.Kids])∧
 (∀ x:api_Rule,enc_api_Rule x=.agg [.sl (List.map enc_i64 x.Conds),.pv (.bool x.All),.pv (.bool x.Bol),.pv (.int .i64 x.Rx.Kind),.pv (.int .u64 x.Rx.Set.e0),.pv (.int .u64 x.Rx.Set.e1),.pv (.int .u64 x.Rx.Set.e2),.pv (.int .u64 x.Rx.Set.e3),.pv (.int .i64 x.Rx.Lo),.pv (.int .i64 x.Rx.Hi),.sl (List.map enc_api_Rx x.Rx.Kids),.pv (.int .i64 x.Trail.Kind),.pv (.int .u64 x.Trail.Set.e0),.pv (.int .u64 x.Trail.Set.e1),.pv (.int .u64 x.Trail.Set.e2),.pv (.int .u64 x.Trail.Set.e3),.pv (.int .i64 x.Trail.Lo),.pv (.int .i64 x.Trail.Hi),.sl (List.map enc_api_Rx x.Trail.Kids),.pv (.bool x.Eof),.pv (.int .i64 x.Act),.pv (.int .i64 x.To)])∧
 (∀ x:api_Rule,fv_api_Rule x=.agg [.sl (List.map enc_i64 x.Conds),.pv (.bool x.All),.pv (.bool x.Bol),.pv (.int .i64 x.Rx.Kind),.pv (.int .u64 x.Rx.Set.e0),.pv (.int .u64 x.Rx.Set.e1),.pv (.int .u64 x.Rx.Set.e2),.pv (.int .u64 x.Rx.Set.e3),.pv (.int .i64 x.Rx.Lo),.pv (.int .i64 x.Rx.Hi),.sl (List.map enc_api_Rx x.Rx.Kids),.pv (.int .i64 x.Trail.Kind),.pv (.int .u64 x.Trail.Set.e0),.pv (.int .u64 x.Trail.Set.e1),.pv (.int .u64 x.Trail.Set.e2),.pv (.int .u64 x.Trail.Set.e3),.pv (.int .i64 x.Trail.Lo),.pv (.int .i64 x.Trail.Hi),.sl (List.map enc_api_Rx x.Trail.Kids),.pv (.bool x.Eof),.pv (.int .i64 x.Act),.pv (.int .i64 x.To)])∧
 (∀ x:api_Rule,av_api_Rule x=.agg [vL enc_i64 x.Conds,vB x.All,vB x.Bol,vI .i64 x.Rx.Kind,vI .u64 x.Rx.Set.e0,vI .u64 x.Rx.Set.e1,vI .u64 x.Rx.Set.e2,vI .u64 x.Rx.Set.e3,vI .i64 x.Rx.Lo,vI .i64 x.Rx.Hi,vL enc_api_Rx x.Rx.Kids,vI .i64 x.Trail.Kind,vI .u64 x.Trail.Set.e0,vI .u64 x.Trail.Set.e1,vI .u64 x.Trail.Set.e2,vI .u64 x.Trail.Set.e3,vI .i64 x.Trail.Lo,vI .i64 x.Trail.Hi,vL enc_api_Rx x.Trail.Kids,vB x.Eof,vI .i64 x.Act,vI .i64 x.To])∧
 (∀ x:api_Rule,ao_api_Rule x=.agg [oL 3 enc_i64 x.Conds,vB x.All,vB x.Bol,vI .i64 x.Rx.Kind,vI .u64 x.Rx.Set.e0,vI .u64 x.Rx.Set.e1,vI .u64 x.Rx.Set.e2,vI .u64 x.Rx.Set.e3,vI .i64 x.Rx.Lo,vI .i64 x.Rx.Hi,oL 36 enc_api_Rx x.Rx.Kids,vI .i64 x.Trail.Kind,vI .u64 x.Trail.Set.e0,vI .u64 x.Trail.Set.e1,vI .u64 x.Trail.Set.e2,vI .u64 x.Trail.Set.e3,vI .i64 x.Trail.Lo,vI .i64 x.Trail.Hi,oL 36 enc_api_Rx x.Trail.Kids,vB x.Eof,vI .i64 x.Act,vI .i64 x.To])∧
 (∀ l:(List api_Rule),encs_api_Rule l=.sl (List.map enc_api_Rule l))∧
 (∀ x:api_Spec,enc_api_Spec x=.agg [.sl (List.map enc_api_Cond x.Conds),.pv (.bool x.Default),.sl (List.map enc_api_Rule x.Rules)])∧
 (∀ x:api_Spec,fv_api_Spec x=.agg [.sl (List.map enc_api_Cond x.Conds),.pv (.bool x.Default),.sl (List.map enc_api_Rule x.Rules)])∧
 (∀ x:api_Spec,av_api_Spec x=.agg [vL enc_api_Cond x.Conds,vB x.Default,vL enc_api_Rule x.Rules])∧
 (∀ x:api_Spec,ao_api_Spec x=.agg [oL 69 enc_api_Cond x.Conds,vB x.Default,oL 38 enc_api_Rule x.Rules])∧
 (∀ l:(List api_Rx),encs_api_Rx l=.sl (List.map enc_api_Rx l))∧
 (∀ l:(List Bool),encs_bool l=.sl (List.map enc_bool l))∧
 (∀ l:(List arr4_uint64),encs_arr4_uint64 l=.sl (List.map enc_arr4_uint64 l))∧
 (∀ l:(List (List Int)),encs__i64 l=.sl (List.map encs_i64 l))∧
 (∀ x:api_Auto,enc_api_Auto x=.agg [.sl (List.map enc_arr4_uint64 x.Sets),.sl (List.map enc_i64 x.Owner),.sl (List.map encs_i64 x.Follow),.sl (List.map enc_bool x.Ends),.sl (List.map encs_i64 x.Starts)])∧
 (∀ x:api_Auto,fv_api_Auto x=.agg [.sl (List.map enc_arr4_uint64 x.Sets),.sl (List.map enc_i64 x.Owner),.sl (List.map encs_i64 x.Follow),.sl (List.map enc_bool x.Ends),.sl (List.map encs_i64 x.Starts)])∧
 (∀ x:api_Auto,av_api_Auto x=.agg [vL enc_arr4_uint64 x.Sets,vL enc_i64 x.Owner,vL encs_i64 x.Follow,vL enc_bool x.Ends,vL encs_i64 x.Starts])∧
 (∀ x:api_Auto,ao_api_Auto x=.agg [oL 33 enc_arr4_uint64 x.Sets,oL 3 enc_i64 x.Owner,oL 30 encs_i64 x.Follow,oL 4 enc_bool x.Ends,oL 30 encs_i64 x.Starts])∧
 (∀ x:hecklelaw03_Maker,enc_hecklelaw03_Maker x=.agg [.sl (List.map enc_u8 x.L),.pv (.int .i64 x.At)])∧
 (∀ x:hecklelaw03_Maker,fv_hecklelaw03_Maker x=.agg [.sl (List.map enc_u8 x.L),.pv (.int .i64 x.At)])∧
 (∀ x:hecklelaw03_Maker,av_hecklelaw03_Maker x=.agg [vL enc_u8 x.L,vI .i64 x.At])∧
 (∀ x:hecklelaw03_Maker,ao_hecklelaw03_Maker x=.agg [oL 5 enc_u8 x.L,vI .i64 x.At])∧
 (∀ x:auto_builder,enc_auto_builder x=.agg [.sl (List.map enc_arr4_uint64 x.Auto.Sets),.sl (List.map enc_i64 x.Auto.Owner),.sl (List.map encs_i64 x.Auto.Follow),.sl (List.map enc_bool x.Auto.Ends),.sl (List.map encs_i64 x.Auto.Starts)])∧
 (∀ x:auto_builder,fv_auto_builder x=.agg [.sl (List.map enc_arr4_uint64 x.Auto.Sets),.sl (List.map enc_i64 x.Auto.Owner),.sl (List.map encs_i64 x.Auto.Follow),.sl (List.map enc_bool x.Auto.Ends),.sl (List.map encs_i64 x.Auto.Starts)])∧
 (∀ x:auto_builder,av_auto_builder x=.agg [vL enc_arr4_uint64 x.Auto.Sets,vL enc_i64 x.Auto.Owner,vL encs_i64 x.Auto.Follow,vL enc_bool x.Auto.Ends,vL encs_i64 x.Auto.Starts])∧
 (∀ x:auto_builder,ao_auto_builder x=.agg [oL 33 enc_arr4_uint64 x.Auto.Sets,oL 3 enc_i64 x.Auto.Owner,oL 30 encs_i64 x.Auto.Follow,oL 4 enc_bool x.Auto.Ends,oL 30 encs_i64 x.Auto.Starts])∧
 (∀ x:rx_pattern,enc_rx_pattern x=.agg [.pv (.int .i64 x.Kind),.pv (.int .u64 x.Set.e0),.pv (.int .u64 x.Set.e1),.pv (.int .u64 x.Set.e2),.pv (.int .u64 x.Set.e3),.pv (.int .i64 x.Lo),.pv (.int .i64 x.Hi),.sl (List.map enc_api_Rx x.Kids)])∧
 (∀ x:rx_pattern,fv_rx_pattern x=.agg [.pv (.int .i64 x.Kind),.pv (.int .u64 x.Set.e0),.pv (.int .u64 x.Set.e1),.pv (.int .u64 x.Set.e2),.pv (.int .u64 x.Set.e3),.pv (.int .i64 x.Lo),.pv (.int .i64 x.Hi),.sl (List.map enc_api_Rx x.Kids)])∧
 (∀ x:rx_pattern,av_rx_pattern x=.agg [vI .i64 x.Kind,vI .u64 x.Set.e0,vI .u64 x.Set.e1,vI .u64 x.Set.e2,vI .u64 x.Set.e3,vI .i64 x.Lo,vI .i64 x.Hi,vL enc_api_Rx x.Kids])∧
 (∀ x:rx_pattern,ao_rx_pattern x=.agg [vI .i64 x.Kind,vI .u64 x.Set.e0,vI .u64 x.Set.e1,vI .u64 x.Set.e2,vI .u64 x.Set.e3,vI .i64 x.Lo,vI .i64 x.Hi,oL 36 enc_api_Rx x.Kids])∧
 (∀ x:api_Places,enc_api_Places x=.agg [.sl (List.map enc_arr4_uint64 x.Sets),.sl (List.map enc_i64 x.First),.sl (List.map enc_i64 x.Last),.sl (List.map encs_i64 x.Follow),.pv (.bool x.Null)])∧
 (∀ x:api_Places,fv_api_Places x=.agg [.sl (List.map enc_arr4_uint64 x.Sets),.sl (List.map enc_i64 x.First),.sl (List.map enc_i64 x.Last),.sl (List.map encs_i64 x.Follow),.pv (.bool x.Null)])∧
 (∀ x:api_Places,av_api_Places x=.agg [vL enc_arr4_uint64 x.Sets,vL enc_i64 x.First,vL enc_i64 x.Last,vL encs_i64 x.Follow,vB x.Null])∧
 (∀ x:api_Places,ao_api_Places x=.agg [oL 33 enc_arr4_uint64 x.Sets,oL 3 enc_i64 x.First,oL 3 enc_i64 x.Last,oL 30 encs_i64 x.Follow,vB x.Null])∧
 (∀ x:struct121,enc_struct121 x=.agg [])∧
 (∀ x:struct121,fv_struct121 x=.agg [])∧
 (∀ x:struct121,av_struct121 x=.agg [])∧
 (∀ x:struct121,ao_struct121 x=.agg [])∧
 (∀ x:spec_rule,enc_spec_rule x=.agg [.sl (List.map enc_i64 x.Conds),.pv (.bool x.All),.pv (.bool x.Bol),.pv (.int .i64 x.Rx.Kind),.pv (.int .u64 x.Rx.Set.e0),.pv (.int .u64 x.Rx.Set.e1),.pv (.int .u64 x.Rx.Set.e2),.pv (.int .u64 x.Rx.Set.e3),.pv (.int .i64 x.Rx.Lo),.pv (.int .i64 x.Rx.Hi),.sl (List.map enc_api_Rx x.Rx.Kids),.pv (.int .i64 x.Trail.Kind),.pv (.int .u64 x.Trail.Set.e0),.pv (.int .u64 x.Trail.Set.e1),.pv (.int .u64 x.Trail.Set.e2),.pv (.int .u64 x.Trail.Set.e3),.pv (.int .i64 x.Trail.Lo),.pv (.int .i64 x.Trail.Hi),.sl (List.map enc_api_Rx x.Trail.Kids),.pv (.bool x.Eof),.pv (.int .i64 x.Act),.pv (.int .i64 x.To)])∧
 (∀ x:spec_rule,fv_spec_rule x=.agg [.sl (List.map enc_i64 x.Conds),.pv (.bool x.All),.pv (.bool x.Bol),.pv (.int .i64 x.Rx.Kind),.pv (.int .u64 x.Rx.Set.e0),.pv (.int .u64 x.Rx.Set.e1),.pv (.int .u64 x.Rx.Set.e2),.pv (.int .u64 x.Rx.Set.e3),.pv (.int .i64 x.Rx.Lo),.pv (.int .i64 x.Rx.Hi),.sl (List.map enc_api_Rx x.Rx.Kids),.pv (.int .i64 x.Trail.Kind),.pv (.int .u64 x.Trail.Set.e0),.pv (.int .u64 x.Trail.Set.e1),.pv (.int .u64 x.Trail.Set.e2),.pv (.int .u64 x.Trail.Set.e3),.pv (.int .i64 x.Trail.Lo),.pv (.int .i64 x.Trail.Hi),.sl (List.map enc_api_Rx x.Trail.Kids),.pv (.bool x.Eof),.pv (.int .i64 x.Act),.pv (.int .i64 x.To)])∧
 (∀ x:spec_rule,av_spec_rule x=.agg [vL enc_i64 x.Conds,vB x.All,vB x.Bol,vI .i64 x.Rx.Kind,vI .u64 x.Rx.Set.e0,vI .u64 x.Rx.Set.e1,vI .u64 x.Rx.Set.e2,vI .u64 x.Rx.Set.e3,vI .i64 x.Rx.Lo,vI .i64 x.Rx.Hi,vL enc_api_Rx x.Rx.Kids,vI .i64 x.Trail.Kind,vI .u64 x.Trail.Set.e0,vI .u64 x.Trail.Set.e1,vI .u64 x.Trail.Set.e2,vI .u64 x.Trail.Set.e3,vI .i64 x.Trail.Lo,vI .i64 x.Trail.Hi,vL enc_api_Rx x.Trail.Kids,vB x.Eof,vI .i64 x.Act,vI .i64 x.To])∧
 (∀ x:spec_rule,ao_spec_rule x=.agg [oL 3 enc_i64 x.Conds,vB x.All,vB x.Bol,vI .i64 x.Rx.Kind,vI .u64 x.Rx.Set.e0,vI .u64 x.Rx.Set.e1,vI .u64 x.Rx.Set.e2,vI .u64 x.Rx.Set.e3,vI .i64 x.Rx.Lo,vI .i64 x.Rx.Hi,oL 36 enc_api_Rx x.Rx.Kids,vI .i64 x.Trail.Kind,vI .u64 x.Trail.Set.e0,vI .u64 x.Trail.Set.e1,vI .u64 x.Trail.Set.e2,vI .u64 x.Trail.Set.e3,vI .i64 x.Trail.Lo,vI .i64 x.Trail.Hi,oL 36 enc_api_Rx x.Trail.Kids,vB x.Eof,vI .i64 x.Act,vI .i64 x.To])∧
 (∀ x:place_builder,enc_place_builder x=.agg [.sl (List.map enc_arr4_uint64 x.sets),.sl (List.map encs_i64 x.follow)])∧
 (∀ x:place_builder,fv_place_builder x=.agg [.sl (List.map enc_arr4_uint64 x.sets),.sl (List.map encs_i64 x.follow)])∧
 (∀ x:place_builder,av_place_builder x=.agg [vL enc_arr4_uint64 x.sets,vL encs_i64 x.follow])∧
 (∀ x:place_builder,ao_place_builder x=.agg [oL 33 enc_arr4_uint64 x.sets,oL 30 encs_i64 x.follow])∧
 (∀ x:place_piece,enc_place_piece x=.agg [.sl (List.map enc_i64 x.first),.sl (List.map enc_i64 x.last),.pv (.bool x.null)])∧
 (∀ x:place_piece,fv_place_piece x=.agg [.sl (List.map enc_i64 x.first),.sl (List.map enc_i64 x.last),.pv (.bool x.null)])∧
 (∀ x:place_piece,av_place_piece x=.agg [vL enc_i64 x.first,vL enc_i64 x.last,vB x.null])∧
 (∀ x:place_piece,ao_place_piece x=.agg [oL 3 enc_i64 x.first,oL 3 enc_i64 x.last,vB x.null])∧
 (∀ x:arr2_int,enc_arr2_int x=.agg [.pv (.int .i64 x.e0),.pv (.int .i64 x.e1)])∧
 (∀ x:arr2_int,fv_arr2_int x=.agg [.pv (.int .i64 x.e0),.pv (.int .i64 x.e1)])∧
 (∀ x:arr2_int,av_arr2_int x=.agg [vI .i64 x.e0,vI .i64 x.e1])∧
 (∀ x:arr2_int,ao_arr2_int x=.agg [vI .i64 x.e0,vI .i64 x.e1])∧
 (∀ l:(List arr2_int),encs_arr2_int l=.sl (List.map enc_arr2_int l))∧
 (∀ l:(List place_piece),encs_place_piece l=.sl (List.map enc_place_piece l))∧
 (∀ n:Int,enc_u32 n=.pv (.int .u32 n))∧
 (∀ x:ByteArray,encm_string_set x=.agg [.pv (.string x),.agg []])∧
 (∀ (k:ByteArray) (l:List ByteArray),putE (.string k) (.agg []) (List.map encm_string_set l)=List.map encm_string_set (sput k l))∧
 (∀ l:(List ByteArray),encs__string_set l=.sl (List.map encm_string_set l))∧
 (∀ s:ByteArray,strElems s=List.map enc_u8 (strInts s)):=
 ⟨fun _=>rfl,fun _=>rfl,fun _=>rfl,enc_runtime_boundsError_eq,fun _=>rfl,fun _=>rfl,fun _=>rfl,fun _=>rfl,fun _=>rfl,enc_runtime_errorAddressString_eq,fun _=>rfl,fun _=>rfl,fun _=>rfl,fun _=>rfl,fun _=>rfl,enc_api_Cond_eq,fun _=>rfl,fun _=>rfl,fun _=>rfl,fun _=>rfl,fun _=>rfl,enc_arr4_uint64_eq,fun _=>rfl,fun _=>rfl,fun _=>rfl,enc_api_Rx_eq,fun _=>rfl,fun _=>rfl,fun _=>rfl,enc_api_Rule_eq,fun _=>rfl,fun _=>rfl,fun _=>rfl,fun _=>rfl,enc_api_Spec_eq,fun _=>rfl,fun _=>rfl,fun _=>rfl,fun _=>rfl,fun _=>rfl,fun _=>rfl,fun _=>rfl,enc_api_Auto_eq,fun _=>rfl,fun _=>rfl,fun _=>rfl,enc_hecklelaw03_Maker_eq,fun _=>rfl,fun _=>rfl,fun _=>rfl,enc_auto_builder_eq,fun _=>rfl,fun _=>rfl,fun _=>rfl,enc_rx_pattern_eq,fun _=>rfl,fun _=>rfl,fun _=>rfl,enc_api_Places_eq,fun _=>rfl,fun _=>rfl,fun _=>rfl,enc_struct121_eq,fun _=>rfl,fun _=>rfl,fun _=>rfl,enc_spec_rule_eq,fun _=>rfl,fun _=>rfl,fun _=>rfl,enc_place_builder_eq,fun _=>rfl,fun _=>rfl,fun _=>rfl,enc_place_piece_eq,fun _=>rfl,fun _=>rfl,fun _=>rfl,enc_arr2_int_eq,fun _=>rfl,fun _=>rfl,fun _=>rfl,fun _=>rfl,fun _=>rfl,fun _=>rfl,fun _=>rfl,putencm_string_set,fun _=>rfl,strElems_ints⟩
noncomputable def tyTab:List (Nat×TI):=[(1,⟨Try.t1.desc,1,8,Option.some (AV.f (FV.pv Value.nilFunc))⟩),
 (2,⟨Try.t2.desc,1,8,Option.some (AV.f (FV.pv (Value.int IntKind.i64 (0:Int))))⟩),
 (3,⟨Try.t3.desc,1,8,Option.some (AV.f (FV.pv (Value.int IntKind.i64 (0:Int))))⟩),
 (4,⟨Try.t4.desc,1,1,Option.some (AV.f (FV.pv (Value.bool Bool.false)))⟩),
 (5,⟨Try.t5.desc,1,1,Option.some (AV.f (FV.pv (Value.int IntKind.u8 (0:Int))))⟩),
 (7,⟨Try.t7.desc,4,24,Option.some (AV.agg [AV.f (FV.pv (Value.int IntKind.i64 (0:Int))),AV.f (FV.pv (Value.int IntKind.i64 (0:Int))),AV.f (FV.pv (Value.bool Bool.false)),AV.f (FV.pv (Value.int IntKind.u8 (0:Int)))])⟩),
 (9,⟨Try.t9.desc,1,16,Option.some (AV.f (FV.pv (Value.string { data:=#[] })))⟩),
 (12,⟨Try.t12.desc,1,8,Option.some (AV.f (FV.pv (Value.int IntKind.u64 (0:Int))))⟩),
 (13,⟨Try.t13.desc,2,24,Option.some (AV.agg [AV.f (FV.pv (Value.string { data:=#[] })),AV.f (FV.pv (Value.int IntKind.u64 (0:Int)))])⟩),
 (18,⟨Try.t18.desc,1,8,Option.some (AV.agg [AV.f (FV.pv (Value.pointer Option.none))])⟩),
 (21,⟨Try.t21.desc,1,4,Option.some (AV.f (FV.pv (Value.int IntKind.i32 (0:Int))))⟩),
 (22,⟨Try.t22.desc,1,24,Option.some (AV.own (5:Nat) [])⟩),
 (23,⟨Try.t23.desc,1,24,Option.some (AV.own (69:Nat) [])⟩),
 (24,⟨Try.t24.desc,1,24,Option.some (AV.own (38:Nat) [])⟩),
 (25,⟨Try.t25.desc,3,56,Option.some (AV.agg [AV.own (69:Nat) [],AV.f (FV.pv (Value.bool Bool.false)),AV.own (38:Nat) []])⟩),
 (26,⟨Try.t25.desc,3,56,Option.some (AV.agg [AV.own (69:Nat) [],AV.f (FV.pv (Value.bool Bool.false)),AV.own (38:Nat) []])⟩),
 (27,⟨Try.t27.desc,1,8,Option.some (AV.f (FV.pv Value.nilFunc))⟩),
 (28,⟨Try.t28.desc,1,8,Option.some (AV.f (FV.pv Value.nilFunc))⟩),
 (29,⟨Try.t29.desc,1,8,Option.some (AV.f (FV.pv Value.nilFunc))⟩),
 (30,⟨Try.t30.desc,1,24,Option.some (AV.own (3:Nat) [])⟩),
 (31,⟨Try.t31.desc,1,8,Option.some (AV.f (FV.pv (Value.int IntKind.u64 (0:Int))))⟩),
 (32,⟨Try.t32.desc,4,32,Option.some (AV.agg [AV.f (FV.pv (Value.int IntKind.u64 (0:Int))),AV.f (FV.pv (Value.int IntKind.u64 (0:Int))),AV.f (FV.pv (Value.int IntKind.u64 (0:Int))),AV.f (FV.pv (Value.int IntKind.u64 (0:Int)))])⟩),
 (33,⟨Try.t32.desc,4,32,Option.some (AV.agg [AV.f (FV.pv (Value.int IntKind.u64 (0:Int))),AV.f (FV.pv (Value.int IntKind.u64 (0:Int))),AV.f (FV.pv (Value.int IntKind.u64 (0:Int))),AV.f (FV.pv (Value.int IntKind.u64 (0:Int)))])⟩),
 (34,⟨Try.t34.desc,1,24,Option.some (AV.own (36:Nat) [])⟩),
 (35,⟨Try.t35.desc,8,80,Option.some (AV.agg [AV.f (FV.pv (Value.int IntKind.i64 (0:Int))),AV.f (FV.pv (Value.int IntKind.u64 (0:Int))),AV.f (FV.pv (Value.int IntKind.u64 (0:Int))),AV.f (FV.pv (Value.int IntKind.u64 (0:Int))),AV.f (FV.pv (Value.int IntKind.u64 (0:Int))),AV.f (FV.pv (Value.int IntKind.i64 (0:Int))),AV.f (FV.pv (Value.int IntKind.i64 (0:Int))),AV.own (36:Nat) []])⟩),
 (36,⟨Try.t35.desc,8,80,Option.some (AV.agg [AV.f (FV.pv (Value.int IntKind.i64 (0:Int))),AV.f (FV.pv (Value.int IntKind.u64 (0:Int))),AV.f (FV.pv (Value.int IntKind.u64 (0:Int))),AV.f (FV.pv (Value.int IntKind.u64 (0:Int))),AV.f (FV.pv (Value.int IntKind.u64 (0:Int))),AV.f (FV.pv (Value.int IntKind.i64 (0:Int))),AV.f (FV.pv (Value.int IntKind.i64 (0:Int))),AV.own (36:Nat) []])⟩),
 (37,⟨Try.t37.desc,22,216,Option.some (AV.agg [AV.own (3:Nat) [],AV.f (FV.pv (Value.bool Bool.false)),AV.f (FV.pv (Value.bool Bool.false)),AV.f (FV.pv (Value.int IntKind.i64 (0:Int))),AV.f (FV.pv (Value.int IntKind.u64 (0:Int))),AV.f (FV.pv (Value.int IntKind.u64 (0:Int))),AV.f (FV.pv (Value.int IntKind.u64 (0:Int))),AV.f (FV.pv (Value.int IntKind.u64 (0:Int))),AV.f (FV.pv (Value.int IntKind.i64 (0:Int))),AV.f (FV.pv (Value.int IntKind.i64 (0:Int))),AV.own (36:Nat) [],AV.f (FV.pv (Value.int IntKind.i64 (0:Int))),AV.f (FV.pv (Value.int IntKind.u64 (0:Int))),AV.f (FV.pv (Value.int IntKind.u64 (0:Int))),AV.f (FV.pv (Value.int IntKind.u64 (0:Int))),AV.f (FV.pv (Value.int IntKind.u64 (0:Int))),AV.f (FV.pv (Value.int IntKind.i64 (0:Int))),AV.f (FV.pv (Value.int IntKind.i64 (0:Int))),AV.own (36:Nat) [],AV.f (FV.pv (Value.bool Bool.false)),AV.f (FV.pv (Value.int IntKind.i64 (0:Int))),AV.f (FV.pv (Value.int IntKind.i64 (0:Int)))])⟩),
 (38,⟨Try.t37.desc,22,216,Option.some (AV.agg [AV.own (3:Nat) [],AV.f (FV.pv (Value.bool Bool.false)),AV.f (FV.pv (Value.bool Bool.false)),AV.f (FV.pv (Value.int IntKind.i64 (0:Int))),AV.f (FV.pv (Value.int IntKind.u64 (0:Int))),AV.f (FV.pv (Value.int IntKind.u64 (0:Int))),AV.f (FV.pv (Value.int IntKind.u64 (0:Int))),AV.f (FV.pv (Value.int IntKind.u64 (0:Int))),AV.f (FV.pv (Value.int IntKind.i64 (0:Int))),AV.f (FV.pv (Value.int IntKind.i64 (0:Int))),AV.own (36:Nat) [],AV.f (FV.pv (Value.int IntKind.i64 (0:Int))),AV.f (FV.pv (Value.int IntKind.u64 (0:Int))),AV.f (FV.pv (Value.int IntKind.u64 (0:Int))),AV.f (FV.pv (Value.int IntKind.u64 (0:Int))),AV.f (FV.pv (Value.int IntKind.u64 (0:Int))),AV.f (FV.pv (Value.int IntKind.i64 (0:Int))),AV.f (FV.pv (Value.int IntKind.i64 (0:Int))),AV.own (36:Nat) [],AV.f (FV.pv (Value.bool Bool.false)),AV.f (FV.pv (Value.int IntKind.i64 (0:Int))),AV.f (FV.pv (Value.int IntKind.i64 (0:Int)))])⟩),
 (39,⟨Try.t39.desc,1,8,Option.some (AV.f (FV.pv Value.nilFunc))⟩),
 (40,⟨Try.t40.desc,1,8,Option.some (AV.f (FV.pv Value.nilFunc))⟩),
 (41,⟨Try.t41.desc,1,8,Option.some (AV.f (FV.pv Value.nilFunc))⟩),
 (42,⟨Try.t3.desc,1,8,Option.some (AV.f (FV.pv (Value.int IntKind.i64 (0:Int))))⟩),
 (44,⟨Try.t44.desc,1,8,Option.some (AV.f (FV.pv Value.nilFunc))⟩),
 (45,⟨Try.t45.desc,1,8,Option.some (AV.f (FV.pv Value.nilFunc))⟩),
 (46,⟨Try.t46.desc,1,8,Option.some (AV.f (FV.pv Value.nilFunc))⟩),
 (47,⟨Try.t47.desc,1,8,Option.some (AV.f (FV.pv Value.nilFunc))⟩),
 (48,⟨Try.t48.desc,1,8,Option.some (AV.f (FV.pv Value.nilFunc))⟩),
 (49,⟨Try.t49.desc,1,24,Option.some (AV.own (4:Nat) [])⟩),
 (50,⟨Try.t50.desc,1,8,Option.some (AV.f (FV.pv Value.nilFunc))⟩),
 (51,⟨Try.t51.desc,1,8,Option.some (AV.f (FV.pv Value.nilFunc))⟩),
 (52,⟨Try.t52.desc,1,24,Option.some (AV.own (33:Nat) [])⟩),
 (53,⟨Try.t53.desc,1,24,Option.some (AV.own (30:Nat) [])⟩),
 (54,⟨Try.t54.desc,5,120,Option.some (AV.agg [AV.own (33:Nat) [],AV.own (3:Nat) [],AV.own (30:Nat) [],AV.own (4:Nat) [],AV.own (30:Nat) []])⟩),
 (55,⟨Try.t54.desc,5,120,Option.some (AV.agg [AV.own (33:Nat) [],AV.own (3:Nat) [],AV.own (30:Nat) [],AV.own (4:Nat) [],AV.own (30:Nat) []])⟩),
 (56,⟨Try.t56.desc,1,8,Option.some (AV.f (FV.pv Value.nilFunc))⟩),
 (58,⟨Try.t58.desc,1,8,Option.some (AV.f (FV.pv Value.nilFunc))⟩),
 (59,⟨Try.t59.desc,1,8,Option.some (AV.f (FV.pv Value.nilFunc))⟩),
 (61,⟨Try.t61.desc,1,8,Option.some (AV.f (FV.pv Value.nilFunc))⟩),
 (62,⟨Try.t62.desc,1,8,Option.some (AV.f (FV.pv Value.nilFunc))⟩),
 (63,⟨Try.t63.desc,1,8,Option.some (AV.f (FV.pv Value.nilFunc))⟩),
 (64,⟨Try.t64.desc,1,8,Option.some (AV.f (FV.pv (Value.pointer Option.none)))⟩),
 (65,⟨Try.t65.desc,2,32,Option.some (AV.agg [AV.own (5:Nat) [],AV.f (FV.pv (Value.int IntKind.i64 (0:Int)))])⟩),
 (66,⟨Try.t65.desc,2,32,Option.some (AV.agg [AV.own (5:Nat) [],AV.f (FV.pv (Value.int IntKind.i64 (0:Int)))])⟩),
 (67,⟨Try.t67.desc,1,8,Option.some (AV.f (FV.pv Value.nilFunc))⟩),
 (68,⟨Try.t68.desc,2,24,Option.some (AV.agg [AV.f (FV.pv (Value.string { data:=#[] })),AV.f (FV.pv (Value.bool Bool.false))])⟩),
 (69,⟨Try.t68.desc,2,24,Option.some (AV.agg [AV.f (FV.pv (Value.string { data:=#[] })),AV.f (FV.pv (Value.bool Bool.false))])⟩),
 (70,⟨Try.t70.desc,1,8,Option.some (AV.f (FV.pv Value.nilFunc))⟩),
 (71,⟨Try.t71.desc,1,8,Option.some (AV.f (FV.pv Value.nilFunc))⟩),
 (72,⟨Try.t72.desc,1,8,Option.some (AV.f (FV.pv Value.nilFunc))⟩),
 (73,⟨Try.t73.desc,1,8,Option.some (AV.f (FV.pv Value.nilFunc))⟩),
 (74,⟨Try.t74.desc,1,8,Option.some (AV.f (FV.pv Value.nilFunc))⟩),
 (75,⟨Try.t75.desc,1,8,Option.some (AV.f (FV.pv Value.nilFunc))⟩),
 (76,⟨Try.t76.desc,1,8,Option.some (AV.f (FV.pv Value.nilFunc))⟩),
 (77,⟨Try.t77.desc,1,8,Option.some (AV.f (FV.pv Value.nilFunc))⟩),
 (78,⟨Try.t78.desc,1,8,Option.some (AV.f (FV.pv Value.nilFunc))⟩),
 (79,⟨Try.t79.desc,1,8,Option.some (AV.f (FV.pv Value.nilFunc))⟩),
 (80,⟨Try.t80.desc,1,8,Option.some (AV.f (FV.pv Value.nilFunc))⟩),
 (81,⟨Try.t81.desc,1,8,Option.some (AV.f (FV.pv Value.nilFunc))⟩),
 (82,⟨Try.t82.desc,1,8,Option.some (AV.f (FV.pv Value.nilFunc))⟩),
 (83,⟨Try.t83.desc,1,8,Option.some (AV.f (FV.pv Value.nilFunc))⟩),
 (84,⟨Try.t84.desc,1,8,Option.some (AV.f (FV.pv Value.nilFunc))⟩),
 (85,⟨Try.t84.desc,1,8,Option.some (AV.f (FV.pv Value.nilFunc))⟩),
 (86,⟨Try.t86.desc,1,8,Option.some (AV.f (FV.pv Value.nilFunc))⟩),
 (87,⟨Try.t87.desc,1,8,Option.some (AV.f (FV.pv Value.nilFunc))⟩),
 (89,⟨Try.t89.desc,1,8,Option.some (AV.f (FV.pv Value.nilFunc))⟩),
 (90,⟨Try.t90.desc,1,8,Option.some (AV.f (FV.pv Value.nilFunc))⟩),
 (91,⟨Try.t91.desc,1,8,Option.some (AV.f (FV.pv Value.nilFunc))⟩),
 (92,⟨Try.t92.desc,1,8,Option.some (AV.f (FV.pv Value.nilFunc))⟩),
 (93,⟨Try.t93.desc,1,8,Option.some (AV.f (FV.pv (Value.pointer Option.none)))⟩),
 (94,⟨Try.t94.desc,5,120,Option.some (AV.agg [AV.own (33:Nat) [],AV.own (3:Nat) [],AV.own (30:Nat) [],AV.own (4:Nat) [],AV.own (30:Nat) []])⟩),
 (95,⟨Try.t94.desc,5,120,Option.some (AV.agg [AV.own (33:Nat) [],AV.own (3:Nat) [],AV.own (30:Nat) [],AV.own (4:Nat) [],AV.own (30:Nat) []])⟩),
 (96,⟨Try.t96.desc,1,8,Option.some (AV.f (FV.pv Value.nilFunc))⟩),
 (97,⟨Try.t97.desc,1,8,Option.some (AV.f (FV.pv Value.nilFunc))⟩),
 (98,⟨Try.t98.desc,1,8,Option.some (AV.f (FV.pv Value.nilFunc))⟩),
 (99,⟨Try.t35.desc,8,80,Option.some (AV.agg [AV.f (FV.pv (Value.int IntKind.i64 (0:Int))),AV.f (FV.pv (Value.int IntKind.u64 (0:Int))),AV.f (FV.pv (Value.int IntKind.u64 (0:Int))),AV.f (FV.pv (Value.int IntKind.u64 (0:Int))),AV.f (FV.pv (Value.int IntKind.u64 (0:Int))),AV.f (FV.pv (Value.int IntKind.i64 (0:Int))),AV.f (FV.pv (Value.int IntKind.i64 (0:Int))),AV.own (36:Nat) []])⟩),
 (100,⟨Try.t100.desc,5,104,Option.some (AV.agg [AV.own (33:Nat) [],AV.own (3:Nat) [],AV.own (3:Nat) [],AV.own (30:Nat) [],AV.f (FV.pv (Value.bool Bool.false))])⟩),
 (101,⟨Try.t100.desc,5,104,Option.some (AV.agg [AV.own (33:Nat) [],AV.own (3:Nat) [],AV.own (3:Nat) [],AV.own (30:Nat) [],AV.f (FV.pv (Value.bool Bool.false))])⟩),
 (103,⟨Try.t103.desc,1,8,Option.some (AV.f (FV.pv Value.nilFunc))⟩),
 (104,⟨Try.t104.desc,1,8,Option.some (AV.f (FV.pv Value.nilFunc))⟩),
 (105,⟨Try.t105.desc,1,8,Option.some (AV.f (FV.pv Value.nilFunc))⟩),
 (106,⟨Try.t105.desc,1,8,Option.some (AV.f (FV.pv Value.nilFunc))⟩),
 (107,⟨Try.t107.desc,1,8,Option.some (AV.f (FV.pv Value.nilFunc))⟩),
 (108,⟨Try.t108.desc,1,8,Option.some (AV.f (FV.pv Value.nilFunc))⟩),
 (109,⟨Try.t109.desc,1,8,Option.some (AV.f (FV.pv Value.nilFunc))⟩),
 (110,⟨Try.t110.desc,1,8,Option.some (AV.f (FV.pv Value.nilFunc))⟩),
 (111,⟨Try.t111.desc,1,8,Option.some (AV.f (FV.pv Value.nilFunc))⟩),
 (112,⟨Try.t112.desc,1,8,Option.some (AV.f (FV.pv Value.nilFunc))⟩),
 (113,⟨Try.t113.desc,1,8,Option.some (AV.f (FV.pv Value.nilFunc))⟩),
 (114,⟨Try.t114.desc,1,8,Option.some (AV.f (FV.pv Value.nilFunc))⟩),
 (115,⟨Try.t115.desc,1,8,Option.some (AV.f (FV.pv Value.nilFunc))⟩),
 (116,⟨Try.t116.desc,1,8,Option.some (AV.f (FV.pv Value.nilFunc))⟩),
 (117,⟨Try.t117.desc,1,8,Option.some (AV.f (FV.pv Value.nilFunc))⟩),
 (118,⟨Try.t118.desc,1,8,Option.some (AV.f (FV.pv Value.nilFunc))⟩),
 (119,⟨Try.t119.desc,1,8,Option.some (AV.f (FV.pv (Value.map Option.none)))⟩),
 (120,⟨Try.t120.desc,1,8,Option.some (AV.f (FV.pv Value.nilFunc))⟩),
 (121,⟨Try.t121.desc,0,0,Option.some (AV.agg [])⟩),
 (122,⟨Try.t37.desc,22,216,Option.some (AV.agg [AV.own (3:Nat) [],AV.f (FV.pv (Value.bool Bool.false)),AV.f (FV.pv (Value.bool Bool.false)),AV.f (FV.pv (Value.int IntKind.i64 (0:Int))),AV.f (FV.pv (Value.int IntKind.u64 (0:Int))),AV.f (FV.pv (Value.int IntKind.u64 (0:Int))),AV.f (FV.pv (Value.int IntKind.u64 (0:Int))),AV.f (FV.pv (Value.int IntKind.u64 (0:Int))),AV.f (FV.pv (Value.int IntKind.i64 (0:Int))),AV.f (FV.pv (Value.int IntKind.i64 (0:Int))),AV.own (36:Nat) [],AV.f (FV.pv (Value.int IntKind.i64 (0:Int))),AV.f (FV.pv (Value.int IntKind.u64 (0:Int))),AV.f (FV.pv (Value.int IntKind.u64 (0:Int))),AV.f (FV.pv (Value.int IntKind.u64 (0:Int))),AV.f (FV.pv (Value.int IntKind.u64 (0:Int))),AV.f (FV.pv (Value.int IntKind.i64 (0:Int))),AV.f (FV.pv (Value.int IntKind.i64 (0:Int))),AV.own (36:Nat) [],AV.f (FV.pv (Value.bool Bool.false)),AV.f (FV.pv (Value.int IntKind.i64 (0:Int))),AV.f (FV.pv (Value.int IntKind.i64 (0:Int)))])⟩),
 (123,⟨Try.t123.desc,1,8,Option.some (AV.f (FV.pv Value.nilFunc))⟩),
 (124,⟨Try.t124.desc,1,8,Option.some (AV.f (FV.pv Value.nilFunc))⟩),
 (126,⟨Try.t126.desc,1,8,Option.some (AV.f (FV.pv Value.nilFunc))⟩),
 (127,⟨Try.t127.desc,1,8,Option.some (AV.f (FV.pv Value.nilFunc))⟩),
 (128,⟨Try.t128.desc,1,8,Option.some (AV.f (FV.pv Value.nilFunc))⟩),
 (129,⟨Try.t129.desc,1,8,Option.some (AV.f (FV.pv (Value.pointer Option.none)))⟩),
 (130,⟨Try.t130.desc,2,48,Option.some (AV.agg [AV.own (33:Nat) [],AV.own (30:Nat) []])⟩),
 (131,⟨Try.t130.desc,2,48,Option.some (AV.agg [AV.own (33:Nat) [],AV.own (30:Nat) []])⟩),
 (132,⟨Try.t132.desc,3,56,Option.some (AV.agg [AV.own (3:Nat) [],AV.own (3:Nat) [],AV.f (FV.pv (Value.bool Bool.false))])⟩),
 (133,⟨Try.t132.desc,3,56,Option.some (AV.agg [AV.own (3:Nat) [],AV.own (3:Nat) [],AV.f (FV.pv (Value.bool Bool.false))])⟩),
 (134,⟨Try.t134.desc,1,8,Option.some (AV.f (FV.pv Value.nilFunc))⟩),
 (135,⟨Try.t135.desc,1,8,Option.some (AV.f (FV.pv Value.nilFunc))⟩),
 (136,⟨Try.t136.desc,1,8,Option.some (AV.f (FV.pv Value.nilFunc))⟩),
 (137,⟨Try.t137.desc,1,8,Option.some (AV.f (FV.pv Value.nilFunc))⟩),
 (138,⟨Try.t138.desc,1,8,Option.some (AV.f (FV.pv Value.nilFunc))⟩),
 (139,⟨Try.t138.desc,1,8,Option.some (AV.f (FV.pv Value.nilFunc))⟩),
 (140,⟨Try.t140.desc,1,8,Option.some (AV.f (FV.pv Value.nilFunc))⟩),
 (141,⟨Try.t141.desc,1,8,Option.some (AV.f (FV.pv Value.nilFunc))⟩),
 (142,⟨Try.t142.desc,1,8,Option.some (AV.f (FV.pv Value.nilFunc))⟩),
 (143,⟨Try.t143.desc,1,24,Option.some (AV.own (145:Nat) [])⟩),
 (144,⟨Try.t144.desc,1,8,Option.some (AV.f (FV.pv Value.nilFunc))⟩),
 (145,⟨Try.t145.desc,2,16,Option.some (AV.agg [AV.f (FV.pv (Value.int IntKind.i64 (0:Int))),AV.f (FV.pv (Value.int IntKind.i64 (0:Int)))])⟩),
 (146,⟨Try.t146.desc,1,8,Option.some (AV.f (FV.pv Value.nilFunc))⟩),
 (147,⟨Try.t147.desc,1,8,Option.some (AV.f (FV.pv Value.nilFunc))⟩),
 (148,⟨Try.t148.desc,1,8,Option.some (AV.f (FV.pv Value.nilFunc))⟩),
 (149,⟨Try.t149.desc,1,8,Option.some (AV.f (FV.pv Value.nilFunc))⟩),
 (150,⟨Try.t150.desc,1,8,Option.some (AV.f (FV.pv Value.nilFunc))⟩),
 (151,⟨Try.t151.desc,1,8,Option.some (AV.f (FV.pv Value.nilFunc))⟩),
 (152,⟨Try.t152.desc,1,8,Option.some (AV.f (FV.pv Value.nilFunc))⟩),
 (153,⟨Try.t153.desc,1,8,Option.some (AV.f (FV.pv Value.nilFunc))⟩),
 (154,⟨Try.t154.desc,1,8,Option.some (AV.f (FV.pv Value.nilFunc))⟩),
 (155,⟨Try.t155.desc,1,8,Option.some (AV.f (FV.pv Value.nilFunc))⟩),
 (156,⟨Try.t156.desc,1,8,Option.some (AV.f (FV.pv (Value.int IntKind.u64 (0:Int))))⟩),
 (157,⟨Try.t157.desc,1,8,Option.some (AV.f (FV.pv Value.nilFunc))⟩),
 (158,⟨Try.t158.desc,1,8,Option.some (AV.f (FV.pv Value.nilFunc))⟩),
 (159,⟨Try.t159.desc,1,24,Option.some (AV.own (133:Nat) [])⟩),
 (160,⟨Try.t160.desc,1,8,Option.some (AV.f (FV.pv Value.nilFunc))⟩),
 (161,⟨Try.t161.desc,1,8,Option.some (AV.f (FV.pv (Value.pointer Option.none)))⟩),
 (162,⟨Try.t162.desc,1,8,Option.some (AV.f (FV.pv Value.nilFunc))⟩),
 (163,⟨Try.t162.desc,1,8,Option.some (AV.f (FV.pv Value.nilFunc))⟩),
 (164,⟨Try.t164.desc,1,8,Option.some (AV.f (FV.pv Value.nilFunc))⟩),
 (165,⟨Try.t165.desc,1,8,Option.some (AV.f (FV.pv Value.nilFunc))⟩),
 (166,⟨Try.t166.desc,1,8,Option.some (AV.f (FV.pv Value.nilFunc))⟩),
 (167,⟨Try.t3.desc,1,8,Option.some (AV.f (FV.pv (Value.int IntKind.i64 (0:Int))))⟩),
 (169,⟨Try.t169.desc,1,8,Option.some (AV.f (FV.pv Value.nilFunc))⟩),
 (170,⟨Try.t170.desc,1,8,Option.some (AV.f (FV.pv Value.nilFunc))⟩),
 (171,⟨Try.t171.desc,1,8,Option.some (AV.f (FV.pv Value.nilFunc))⟩),
 (172,⟨Try.t172.desc,1,8,Option.some (AV.f (FV.pv Value.nilFunc))⟩),
 (174,⟨Try.t174.desc,1,8,Option.some (AV.f (FV.pv Value.nilFunc))⟩),
 (175,⟨Try.t175.desc,1,8,Option.some (AV.f (FV.pv Value.nilFunc))⟩),
 (176,⟨Try.t176.desc,1,4,Option.some (AV.f (FV.pv (Value.int IntKind.u32 (0:Int))))⟩),
 (177,⟨Try.t177.desc,1,8,Option.some (AV.f (FV.pv Value.nilFunc))⟩),
 (178,⟨Try.t178.desc,1,8,Option.some (AV.f (FV.pv Value.nilFunc))⟩),
 (179,⟨Try.t31.desc,1,8,Option.some (AV.f (FV.pv (Value.int IntKind.u64 (0:Int))))⟩),
 (180,⟨Try.t180.desc,1,8,Option.some (AV.f (FV.pv Value.nilFunc))⟩),
 (181,⟨Try.t181.desc,1,8,Option.some (AV.f (FV.pv Value.nilFunc))⟩),
 (182,⟨Try.t182.desc,1,8,Option.some (AV.f (FV.pv Value.nilFunc))⟩),
 (183,⟨Try.t183.desc,1,8,Option.some (AV.f (FV.pv (Value.pointer Option.none)))⟩),
 (184,⟨Try.t184.desc,1,8,Option.some (AV.f (FV.pv Value.nilFunc))⟩),
 (185,⟨Try.t185.desc,1,8,Option.some (AV.f (FV.pv (Value.pointer Option.none)))⟩),
 (186,⟨Try.t186.desc,1,8,Option.some (AV.f (FV.pv Value.nilFunc))⟩),
 (187,⟨Try.t187.desc,1,8,Option.some (AV.f (FV.pv Value.nilFunc))⟩),
 (188,⟨Try.t188.desc,4,40,Option.some (AV.agg [AV.f (FV.pv (Value.pointer Option.none)),AV.f (FV.pv (Value.pointer Option.none)),AV.f (FV.pv (Value.pointer Option.none)),AV.f (FV.pv (Value.string { data:=#[] }))])⟩),
 (190,⟨Try.t190.desc,0,0,Option.some (AV.agg [])⟩),
 (191,⟨Try.t191.desc,0,0,Option.some (AV.agg [])⟩),
 (193,⟨Try.t193.desc,1,8,Option.some (AV.f (FV.pv Value.nilFunc))⟩),
 (196,⟨Try.t196.desc,1,8,Option.some (AV.f (FV.pv Value.nilFunc))⟩),
 (197,⟨Try.t197.desc,1,8,Option.some (AV.f (FV.pv (Value.pointer Option.none)))⟩),
 (200,⟨Try.t200.desc,11,48,Option.some (AV.agg [AV.f (FV.pv (Value.int IntKind.u64 (0:Int))),AV.f (FV.pv (Value.int IntKind.u64 (0:Int))),AV.f (FV.pv (Value.int IntKind.u32 (0:Int))),AV.f (FV.pv (Value.int IntKind.u8 (0:Int))),AV.f (FV.pv (Value.int IntKind.u8 (0:Int))),AV.f (FV.pv (Value.int IntKind.u8 (0:Int))),AV.f (FV.pv (Value.int IntKind.u8 (0:Int))),AV.f (FV.pv Value.nilFunc),AV.f (FV.pv (Value.pointer Option.none)),AV.f (FV.pv (Value.int IntKind.i32 (0:Int))),AV.f (FV.pv (Value.int IntKind.i32 (0:Int)))])⟩)]
theorem tyTab_ok:TabOk Try.prog tyTab:=⟨tiOf_eq Try.underlying1 Try.type1 (by kernel_rfl),
 ⟨tiOf_eq Try.underlying2 Try.type2 (by kernel_rfl),
 ⟨tiOf_eq Try.underlying3 Try.type3 (by kernel_rfl),
 ⟨tiOf_eq Try.underlying4 Try.type4 (by kernel_rfl),
 ⟨tiOf_eq Try.underlying5 Try.type5 (by kernel_rfl),
 ⟨tiOf_eq Try.underlying7 Try.type7 (by kernel_rfl),
 ⟨tiOf_eq Try.underlying9 Try.type9 (by kernel_rfl),
 ⟨tiOf_eq Try.underlying12 Try.type12 (by kernel_rfl),
 ⟨tiOf_eq Try.underlying13 Try.type13 (by kernel_rfl),
 ⟨tiOf_eq Try.underlying18 Try.type18 (by kernel_rfl),
 ⟨tiOf_eq Try.underlying21 Try.type21 (by kernel_rfl),
 ⟨tiOf_eq Try.underlying22 Try.type22 (by kernel_rfl),
 ⟨tiOf_eq Try.underlying23 Try.type23 (by kernel_rfl),
 ⟨tiOf_eq Try.underlying24 Try.type24 (by kernel_rfl),
 ⟨tiOf_eq Try.underlying25 Try.type25 (by kernel_rfl),
 ⟨tiOf_eq Try.underlying26 Try.type26 (by kernel_rfl),
 ⟨tiOf_eq Try.underlying27 Try.type27 (by kernel_rfl),
 ⟨tiOf_eq Try.underlying28 Try.type28 (by kernel_rfl),
 ⟨tiOf_eq Try.underlying29 Try.type29 (by kernel_rfl),
 ⟨tiOf_eq Try.underlying30 Try.type30 (by kernel_rfl),
 ⟨tiOf_eq Try.underlying31 Try.type31 (by kernel_rfl),
 ⟨tiOf_eq Try.underlying32 Try.type32 (by kernel_rfl),
 ⟨tiOf_eq Try.underlying33 Try.type33 (by kernel_rfl),
 ⟨tiOf_eq Try.underlying34 Try.type34 (by kernel_rfl),
 ⟨tiOf_eq Try.underlying35 Try.type35 (by kernel_rfl),
 ⟨tiOf_eq Try.underlying36 Try.type36 (by kernel_rfl),
 ⟨tiOf_eq Try.underlying37 Try.type37 (by kernel_rfl),
 ⟨tiOf_eq Try.underlying38 Try.type38 (by kernel_rfl),
 ⟨tiOf_eq Try.underlying39 Try.type39 (by kernel_rfl),
 ⟨tiOf_eq Try.underlying40 Try.type40 (by kernel_rfl),
 ⟨tiOf_eq Try.underlying41 Try.type41 (by kernel_rfl),
 ⟨tiOf_eq Try.underlying42 Try.type42 (by kernel_rfl),
 ⟨tiOf_eq Try.underlying44 Try.type44 (by kernel_rfl),
 ⟨tiOf_eq Try.underlying45 Try.type45 (by kernel_rfl),
 ⟨tiOf_eq Try.underlying46 Try.type46 (by kernel_rfl),
 ⟨tiOf_eq Try.underlying47 Try.type47 (by kernel_rfl),
 ⟨tiOf_eq Try.underlying48 Try.type48 (by kernel_rfl),
 ⟨tiOf_eq Try.underlying49 Try.type49 (by kernel_rfl),
 ⟨tiOf_eq Try.underlying50 Try.type50 (by kernel_rfl),
 ⟨tiOf_eq Try.underlying51 Try.type51 (by kernel_rfl),
 ⟨tiOf_eq Try.underlying52 Try.type52 (by kernel_rfl),
 ⟨tiOf_eq Try.underlying53 Try.type53 (by kernel_rfl),
 ⟨tiOf_eq Try.underlying54 Try.type54 (by kernel_rfl),
 ⟨tiOf_eq Try.underlying55 Try.type55 (by kernel_rfl),
 ⟨tiOf_eq Try.underlying56 Try.type56 (by kernel_rfl),
 ⟨tiOf_eq Try.underlying58 Try.type58 (by kernel_rfl),
 ⟨tiOf_eq Try.underlying59 Try.type59 (by kernel_rfl),
 ⟨tiOf_eq Try.underlying61 Try.type61 (by kernel_rfl),
 ⟨tiOf_eq Try.underlying62 Try.type62 (by kernel_rfl),
 ⟨tiOf_eq Try.underlying63 Try.type63 (by kernel_rfl),
 ⟨tiOf_eq Try.underlying64 Try.type64 (by kernel_rfl),
 ⟨tiOf_eq Try.underlying65 Try.type65 (by kernel_rfl),
 ⟨tiOf_eq Try.underlying66 Try.type66 (by kernel_rfl),
 ⟨tiOf_eq Try.underlying67 Try.type67 (by kernel_rfl),
 ⟨tiOf_eq Try.underlying68 Try.type68 (by kernel_rfl),
 ⟨tiOf_eq Try.underlying69 Try.type69 (by kernel_rfl),
 ⟨tiOf_eq Try.underlying70 Try.type70 (by kernel_rfl),
 ⟨tiOf_eq Try.underlying71 Try.type71 (by kernel_rfl),
 ⟨tiOf_eq Try.underlying72 Try.type72 (by kernel_rfl),
 ⟨tiOf_eq Try.underlying73 Try.type73 (by kernel_rfl),
 ⟨tiOf_eq Try.underlying74 Try.type74 (by kernel_rfl),
 ⟨tiOf_eq Try.underlying75 Try.type75 (by kernel_rfl),
 ⟨tiOf_eq Try.underlying76 Try.type76 (by kernel_rfl),
 ⟨tiOf_eq Try.underlying77 Try.type77 (by kernel_rfl),
 ⟨tiOf_eq Try.underlying78 Try.type78 (by kernel_rfl),
 ⟨tiOf_eq Try.underlying79 Try.type79 (by kernel_rfl),
 ⟨tiOf_eq Try.underlying80 Try.type80 (by kernel_rfl),
 ⟨tiOf_eq Try.underlying81 Try.type81 (by kernel_rfl),
 ⟨tiOf_eq Try.underlying82 Try.type82 (by kernel_rfl),
 ⟨tiOf_eq Try.underlying83 Try.type83 (by kernel_rfl),
 ⟨tiOf_eq Try.underlying84 Try.type84 (by kernel_rfl),
 ⟨tiOf_eq Try.underlying85 Try.type85 (by kernel_rfl),
 ⟨tiOf_eq Try.underlying86 Try.type86 (by kernel_rfl),
 ⟨tiOf_eq Try.underlying87 Try.type87 (by kernel_rfl),
 ⟨tiOf_eq Try.underlying89 Try.type89 (by kernel_rfl),
 ⟨tiOf_eq Try.underlying90 Try.type90 (by kernel_rfl),
 ⟨tiOf_eq Try.underlying91 Try.type91 (by kernel_rfl),
 ⟨tiOf_eq Try.underlying92 Try.type92 (by kernel_rfl),
 ⟨tiOf_eq Try.underlying93 Try.type93 (by kernel_rfl),
 ⟨tiOf_eq Try.underlying94 Try.type94 (by kernel_rfl),
 ⟨tiOf_eq Try.underlying95 Try.type95 (by kernel_rfl),
 ⟨tiOf_eq Try.underlying96 Try.type96 (by kernel_rfl),
 ⟨tiOf_eq Try.underlying97 Try.type97 (by kernel_rfl),
 ⟨tiOf_eq Try.underlying98 Try.type98 (by kernel_rfl),
 ⟨tiOf_eq Try.underlying99 Try.type99 (by kernel_rfl),
 ⟨tiOf_eq Try.underlying100 Try.type100 (by kernel_rfl),
 ⟨tiOf_eq Try.underlying101 Try.type101 (by kernel_rfl),
 ⟨tiOf_eq Try.underlying103 Try.type103 (by kernel_rfl),
 ⟨tiOf_eq Try.underlying104 Try.type104 (by kernel_rfl),
 ⟨tiOf_eq Try.underlying105 Try.type105 (by kernel_rfl),
 ⟨tiOf_eq Try.underlying106 Try.type106 (by kernel_rfl),
 ⟨tiOf_eq Try.underlying107 Try.type107 (by kernel_rfl),
 ⟨tiOf_eq Try.underlying108 Try.type108 (by kernel_rfl),
 ⟨tiOf_eq Try.underlying109 Try.type109 (by kernel_rfl),
 ⟨tiOf_eq Try.underlying110 Try.type110 (by kernel_rfl),
 ⟨tiOf_eq Try.underlying111 Try.type111 (by kernel_rfl),
 ⟨tiOf_eq Try.underlying112 Try.type112 (by kernel_rfl),
 ⟨tiOf_eq Try.underlying113 Try.type113 (by kernel_rfl),
 ⟨tiOf_eq Try.underlying114 Try.type114 (by kernel_rfl),
 ⟨tiOf_eq Try.underlying115 Try.type115 (by kernel_rfl),
 ⟨tiOf_eq Try.underlying116 Try.type116 (by kernel_rfl),
 ⟨tiOf_eq Try.underlying117 Try.type117 (by kernel_rfl),
 ⟨tiOf_eq Try.underlying118 Try.type118 (by kernel_rfl),
 ⟨tiOf_eq Try.underlying119 Try.type119 (by kernel_rfl),
 ⟨tiOf_eq Try.underlying120 Try.type120 (by kernel_rfl),
 ⟨tiOf_eq Try.underlying121 Try.type121 (by kernel_rfl),
 ⟨tiOf_eq Try.underlying122 Try.type122 (by kernel_rfl),
 ⟨tiOf_eq Try.underlying123 Try.type123 (by kernel_rfl),
 ⟨tiOf_eq Try.underlying124 Try.type124 (by kernel_rfl),
 ⟨tiOf_eq Try.underlying126 Try.type126 (by kernel_rfl),
 ⟨tiOf_eq Try.underlying127 Try.type127 (by kernel_rfl),
 ⟨tiOf_eq Try.underlying128 Try.type128 (by kernel_rfl),
 ⟨tiOf_eq Try.underlying129 Try.type129 (by kernel_rfl),
 ⟨tiOf_eq Try.underlying130 Try.type130 (by kernel_rfl),
 ⟨tiOf_eq Try.underlying131 Try.type131 (by kernel_rfl),
 ⟨tiOf_eq Try.underlying132 Try.type132 (by kernel_rfl),
 ⟨tiOf_eq Try.underlying133 Try.type133 (by kernel_rfl),
 ⟨tiOf_eq Try.underlying134 Try.type134 (by kernel_rfl),
 ⟨tiOf_eq Try.underlying135 Try.type135 (by kernel_rfl),
 ⟨tiOf_eq Try.underlying136 Try.type136 (by kernel_rfl),
 ⟨tiOf_eq Try.underlying137 Try.type137 (by kernel_rfl),
 ⟨tiOf_eq Try.underlying138 Try.type138 (by kernel_rfl),
 ⟨tiOf_eq Try.underlying139 Try.type139 (by kernel_rfl),
 ⟨tiOf_eq Try.underlying140 Try.type140 (by kernel_rfl),
 ⟨tiOf_eq Try.underlying141 Try.type141 (by kernel_rfl),
 ⟨tiOf_eq Try.underlying142 Try.type142 (by kernel_rfl),
 ⟨tiOf_eq Try.underlying143 Try.type143 (by kernel_rfl),
 ⟨tiOf_eq Try.underlying144 Try.type144 (by kernel_rfl),
 ⟨tiOf_eq Try.underlying145 Try.type145 (by kernel_rfl),
 ⟨tiOf_eq Try.underlying146 Try.type146 (by kernel_rfl),
 ⟨tiOf_eq Try.underlying147 Try.type147 (by kernel_rfl),
 ⟨tiOf_eq Try.underlying148 Try.type148 (by kernel_rfl),
 ⟨tiOf_eq Try.underlying149 Try.type149 (by kernel_rfl),
 ⟨tiOf_eq Try.underlying150 Try.type150 (by kernel_rfl),
 ⟨tiOf_eq Try.underlying151 Try.type151 (by kernel_rfl),
 ⟨tiOf_eq Try.underlying152 Try.type152 (by kernel_rfl),
 ⟨tiOf_eq Try.underlying153 Try.type153 (by kernel_rfl),
 ⟨tiOf_eq Try.underlying154 Try.type154 (by kernel_rfl),
 ⟨tiOf_eq Try.underlying155 Try.type155 (by kernel_rfl),
 ⟨tiOf_eq Try.underlying156 Try.type156 (by kernel_rfl),
 ⟨tiOf_eq Try.underlying157 Try.type157 (by kernel_rfl),
 ⟨tiOf_eq Try.underlying158 Try.type158 (by kernel_rfl),
 ⟨tiOf_eq Try.underlying159 Try.type159 (by kernel_rfl),
 ⟨tiOf_eq Try.underlying160 Try.type160 (by kernel_rfl),
 ⟨tiOf_eq Try.underlying161 Try.type161 (by kernel_rfl),
 ⟨tiOf_eq Try.underlying162 Try.type162 (by kernel_rfl),
 ⟨tiOf_eq Try.underlying163 Try.type163 (by kernel_rfl),
 ⟨tiOf_eq Try.underlying164 Try.type164 (by kernel_rfl),
 ⟨tiOf_eq Try.underlying165 Try.type165 (by kernel_rfl),
 ⟨tiOf_eq Try.underlying166 Try.type166 (by kernel_rfl),
 ⟨tiOf_eq Try.underlying167 Try.type167 (by kernel_rfl),
 ⟨tiOf_eq Try.underlying169 Try.type169 (by kernel_rfl),
 ⟨tiOf_eq Try.underlying170 Try.type170 (by kernel_rfl),
 ⟨tiOf_eq Try.underlying171 Try.type171 (by kernel_rfl),
 ⟨tiOf_eq Try.underlying172 Try.type172 (by kernel_rfl),
 ⟨tiOf_eq Try.underlying174 Try.type174 (by kernel_rfl),
 ⟨tiOf_eq Try.underlying175 Try.type175 (by kernel_rfl),
 ⟨tiOf_eq Try.underlying176 Try.type176 (by kernel_rfl),
 ⟨tiOf_eq Try.underlying177 Try.type177 (by kernel_rfl),
 ⟨tiOf_eq Try.underlying178 Try.type178 (by kernel_rfl),
 ⟨tiOf_eq Try.underlying179 Try.type179 (by kernel_rfl),
 ⟨tiOf_eq Try.underlying180 Try.type180 (by kernel_rfl),
 ⟨tiOf_eq Try.underlying181 Try.type181 (by kernel_rfl),
 ⟨tiOf_eq Try.underlying182 Try.type182 (by kernel_rfl),
 ⟨tiOf_eq Try.underlying183 Try.type183 (by kernel_rfl),
 ⟨tiOf_eq Try.underlying184 Try.type184 (by kernel_rfl),
 ⟨tiOf_eq Try.underlying185 Try.type185 (by kernel_rfl),
 ⟨tiOf_eq Try.underlying186 Try.type186 (by kernel_rfl),
 ⟨tiOf_eq Try.underlying187 Try.type187 (by kernel_rfl),
 ⟨tiOf_eq Try.underlying188 Try.type188 (by kernel_rfl),
 ⟨tiOf_eq Try.underlying190 Try.type190 (by kernel_rfl),
 ⟨tiOf_eq Try.underlying191 Try.type191 (by kernel_rfl),
 ⟨tiOf_eq Try.underlying193 Try.type193 (by kernel_rfl),
 ⟨tiOf_eq Try.underlying196 Try.type196 (by kernel_rfl),
 ⟨tiOf_eq Try.underlying197 Try.type197 (by kernel_rfl),
 ⟨tiOf_eq Try.underlying200 Try.type200 (by kernel_rfl),
 trivial⟩⟩⟩⟩⟩⟩⟩⟩⟩⟩⟩⟩⟩⟩⟩⟩⟩⟩⟩⟩⟩⟩⟩⟩⟩⟩⟩⟩⟩⟩⟩⟩⟩⟩⟩⟩⟩⟩⟩⟩⟩⟩⟩⟩⟩⟩⟩⟩⟩⟩⟩⟩⟩⟩⟩⟩⟩⟩⟩⟩⟩⟩⟩⟩⟩⟩⟩⟩⟩⟩⟩⟩⟩⟩⟩⟩⟩⟩⟩⟩⟩⟩⟩⟩⟩⟩⟩⟩⟩⟩⟩⟩⟩⟩⟩⟩⟩⟩⟩⟩⟩⟩⟩⟩⟩⟩⟩⟩⟩⟩⟩⟩⟩⟩⟩⟩⟩⟩⟩⟩⟩⟩⟩⟩⟩⟩⟩⟩⟩⟩⟩⟩⟩⟩⟩⟩⟩⟩⟩⟩⟩⟩⟩⟩⟩⟩⟩⟩⟩⟩⟩⟩⟩⟩⟩⟩⟩⟩⟩⟩⟩⟩⟩⟩⟩⟩⟩⟩⟩⟩⟩⟩⟩⟩⟩⟩
abbrev bT:Ora:=.b true
abbrev bF:Ora:=.b false
theorem oT {l:List Prop} (h:AllP l):AllP ((true=true) :: l):=⟨rfl,h⟩
theorem oF {l:List Prop} (h:AllP l):AllP ((false=false) :: l):=⟨rfl,h⟩
section
variable {P : Program} {c : Cfg} {G G' : Sta} {K : Ex → Sta → Prop} {x : Code}
theorem sDE (hc:COk P c) (q:List Ora) (dr:List Nat) (ch ch':Sta) {obs:List Prop} (ho:AllP obs) (hk:Sem P c (sq2 x) (edt dr ch' G) K) (e':ch=ch':=by first | rfl | (simp only [nm,enq];done) | (simp only [n0];first | done | simp only [nm,enq])) (e:x=.seq (sq1 x) (sq2 x):=by kernel_rfl)
 (h:evReg P c (sq1 x) q [] (keysOf (edt dr ch G)) G=some (obs,edt dr ch G):=by kernel_rfl):Sem P c x G K:=by subst e';exact Sem.seqR hc e h ho hk
theorem rDE (hc:COk P c) (q:List Ora) (dr:List Nat) (ch ch':Sta) {obs:List Prop} (ho:AllP obs) (hk:K .normal (edt dr ch' G)) (e':ch=ch':=by first | rfl | (simp only [nm,enq];done) | (simp only [n0];first | done | simp only [nm,enq]))
 (h:evReg P c x q [] (keysOf (edt dr ch G)) G=some (obs,edt dr ch G):=by kernel_rfl):Sem P c x G K:=by subst e';exact Sem.region hc h ho hk
theorem endD {nt:Nat} {rs:List ResultVar} {n:Nat} (fz:List (Nat×Nat)) (r:AV) (l:List AV) {R:AV→List AV→Prop} (hR:R r l:=by first | exact ⟨rfl,rfl⟩ | (refine ⟨?_,?_⟩<;>(try simp only [nm,enq])<;>rfl) | (refine ⟨?_,?_⟩<;>simp only [nm,enq])) (h:evEnd P c rs n (Ev.frzs fz G)=some (r,l):=by kernel_rfl) :
 (∃ G',Wk P nt G G'∧endK (CallE P) c rs n R .ret G')∧(∃ G',Wk P nt G G'∧endK (CallE P) c rs n R .normal G'):=
 ⟨⟨_,Wk.frzs,(evEnd_endK h hR).1⟩,⟨_,Wk.frzs,(evEnd_endK h hR).2⟩⟩
end
end Go.Ev
namespace Go.Proofs
open Go.Shelf
def Try.lays189_ren:Go.Shelf.Ren:=⟨fun | 189=>93 | 125=>116 | 257=>115 | 128=>132 | 129=>133 | 294=>123 | 295=>124 | 296=>125 | 297=>126 | 298=>127 | 299=>128 | 216=>129 | 300=>130 | 301=>131 | 328=>135 | 329=>136 | 330=>137 | 331=>138 | 332=>139 | 215=>140 | 343=>141 | n=>n,fun | 28=>30 | 3=>3 | 46=>156 | 0=>0 | 51=>176 | 53=>31 | 4=>4 | 183=>168 | 182=>167 | 131=>173 | 5=>5 | 9=>9 | 218=>179 | 222=>183 | 228=>185 | 229=>57 | n=>n,fun | n=>n⟩
theorem Try.lays189:Go.Proofs.Lays.n189 Try.prog Try.lays189_ren:={
 mixed:=by kernel_rfl
 f125:=Try.func116.trans (congrArg some (by kernel_rfl))
 f128:=Try.func132.trans (congrArg some (by kernel_rfl))
 f129:=Try.func133.trans (congrArg some (by kernel_rfl))
 f189:=Try.func93.trans (congrArg some (by kernel_rfl))
 f215:=Try.func140.trans (congrArg some (by kernel_rfl))
 f216:=Try.func129.trans (congrArg some (by kernel_rfl))
 f257:=Try.func115.trans (congrArg some (by kernel_rfl))
 f294:=Try.func123.trans (congrArg some (by kernel_rfl))
 f295:=Try.func124.trans (congrArg some (by kernel_rfl))
 f296:=Try.func125.trans (congrArg some (by kernel_rfl))
 f297:=Try.func126.trans (congrArg some (by kernel_rfl))
 f298:=Try.func127.trans (congrArg some (by kernel_rfl))
 f299:=Try.func128.trans (congrArg some (by kernel_rfl))
 f300:=Try.func130.trans (congrArg some (by kernel_rfl))
 f301:=Try.func131.trans (congrArg some (by kernel_rfl))
 f328:=Try.func135.trans (congrArg some (by kernel_rfl))
 f329:=Try.func136.trans (congrArg some (by kernel_rfl))
 f330:=Try.func137.trans (congrArg some (by kernel_rfl))
 f331:=Try.func138.trans (congrArg some (by kernel_rfl))
 f332:=Try.func139.trans (congrArg some (by kernel_rfl))
 f343:=Try.func141.trans (congrArg some (by kernel_rfl))
 t0:=Try.underlying0
 a0:=Try.isAgg0
 z0:=Try.sizeOf0
 v0:=Try.zeroValue0
 t3:=Try.underlying3
 a3:=Try.isAgg3
 z3:=Try.sizeOf3
 v3:=Try.zeroValue3
 t4:=Try.underlying4
 a4:=Try.isAgg4
 z4:=Try.sizeOf4
 v4:=Try.zeroValue4
 t5:=Try.underlying5
 a5:=Try.isAgg5
 z5:=Try.sizeOf5
 v5:=Try.zeroValue5
 t9:=Try.underlying9
 a9:=Try.isAgg9
 z9:=Try.sizeOf9
 v9:=Try.zeroValue9
 t28:=Try.underlying30
 a28:=Try.isAgg30
 z28:=Try.sizeOf30
 v28:=Try.zeroValue30
 t46:=Try.underlying156
 a46:=Try.isAgg156
 z46:=Try.sizeOf156
 v46:=Try.zeroValue156
 t51:=Try.underlying176
 a51:=Try.isAgg176
 z51:=Try.sizeOf176
 v51:=Try.zeroValue176
 t53:=Try.underlying31
 a53:=Try.isAgg31
 z53:=Try.sizeOf31
 v53:=Try.zeroValue31
 t131:=Try.underlying173
 a131:=Try.isAgg173
 z131:=Try.sizeOf173
 v131:=Try.zeroValue173
 t182:=Try.underlying167
 a182:=Try.isAgg167
 z182:=Try.sizeOf167
 v182:=Try.zeroValue167
 t183:=Try.underlying168
 a183:=Try.isAgg168
 z183:=Try.sizeOf168
 v183:=Try.zeroValue168
 t218:=Try.underlying179
 a218:=Try.isAgg179
 z218:=Try.sizeOf179
 v218:=Try.zeroValue179
 t222:=Try.underlying183
 a222:=Try.isAgg183
 z222:=Try.sizeOf183
 v222:=Try.zeroValue183
 t228:=Try.underlying185
 a228:=Try.isAgg185
 z228:=Try.sizeOf185
 v228:=Try.zeroValue185
 t229:=Try.underlying57
 a229:=Try.isAgg57
 z229:=Try.sizeOf57
 v229:=Try.zeroValue57 }
open Go.Sort Go.RowKit in
theorem Try.slices_Sort_int (blk off cap:Nat) (zs:List Int) (w:World) (hH:Holds (Value.int .i64) w blk off zs.toArray) (hblk:blk < w.heap.size) (hsz:zs.length < 4611686018427387904) :
 Calls Try.prog 93 #[.slice (some ⟨blk,off,none⟩) zs.length cap] w fun e w'=>
  e=.returned (.tuple #[])∧∃ n os,w'=grow (putRow (Value.int .i64) (Sort.ahead w n) blk off (zs.mergeSort fun x y=>decide (x≤y)).toArray) os:=Any.slices_Sort_int Try.lays189 blk off cap zs w hH hblk hsz
def Try.laysNm220_ren:Go.Shelf.Ren:=⟨fun | 20=>94 | n=>n,fun | 22=>30 | 3=>3 | 4=>4 | 0=>0 | n=>n,fun | n=>n⟩
theorem Try.laysNm220:Go.Proofs.Lays2.n20 Try.prog Try.laysNm220_ren:={
 mixed:=by kernel_rfl
 f20:=Try.func94.trans (congrArg some (by kernel_rfl))
 t0:=Try.underlying0
 a0:=Try.isAgg0
 z0:=Try.sizeOf0
 v0:=Try.zeroValue0
 t3:=Try.underlying3
 a3:=Try.isAgg3
 z3:=Try.sizeOf3
 v3:=Try.zeroValue3
 t4:=Try.underlying4
 a4:=Try.isAgg4
 z4:=Try.sizeOf4
 v4:=Try.zeroValue4
 t22:=Try.underlying30
 a22:=Try.isAgg30
 z22:=Try.sizeOf30
 v22:=Try.zeroValue30
 i3:=by kernel_rfl }
open Go.RowKit Go.Lib Go.Sort in
theorem Try.slices_Compact_int (blk off cap:Nat) (zs:List Int) (w:World) (hH:Holds (Value.int .i64) w blk off zs.toArray) (hsz:zs.length≤9223372036854775807) (hcap:zs.length≤cap) :
 Calls Try.prog 94 #[.slice (some ⟨blk,off,none⟩) zs.length cap] w fun e w'=>e=.returned (.slice (some ⟨blk,off,none⟩) (Lib.compact zs).length cap)∧∃ q,w'=putRow (Value.int .i64) (Sort.ahead w q) blk off (Lib.compact zs++List.replicate (zs.length - (Lib.compact zs).length) 0).toArray:=Any.slices_Compact_int Try.laysNm220 blk off cap zs w hH hsz hcap
open Go.RowKit Go.Lib Go.Sort in
theorem Try.slices_Compact_int_empty (a:Option Addr) (cap:Nat) (w:World) :
 Calls Try.prog 94 #[.slice a 0 cap] w fun e w'=>e=.returned (.slice a 0 cap)∧w'=w:=Any.slices_Compact_int_empty Try.laysNm220 a cap w
open Go.RowKit Go.Sort in
theorem Try.slices_Sort_int_none (p:Option Addr) (cap:Nat) (w:World) :
 Calls Try.prog 93 #[.slice p 0 cap] w fun e w'=>e=.returned (.tuple #[])∧w'=w:=Any.slices_Sort_int_none Try.lays189 p cap w
end Go.Proofs
set_option linter.unusedVariables false
set_option linter.unusedSimpArgs false
namespace Go.Ev
open Go Go.RowKit Go.Sort
variable {P : Program}
def fvInts:List FV→Option (List Int)
 | []=>some []
 | .pv (.int .i64 n) :: r=>match fvInts r with
   | some l=>some (n :: l)
   | none=>none
 | _=>none
theorem fvInts_spec:∀ {l:List FV} {zs:List Int},fvInts l=some zs→l=zs.map fun n=>.pv (.int .i64 n)
 | [],zs,h=>by simp only [fvInts,Option.some.injEq] at h;subst h;rfl
 | .pv (.int k n) :: r,zs,h=>by
   unfold fvInts at h
   split at h
   ·rename_i heq;cases heq
   ·rename_i heq
    cases heq
    split at h
    ·rename_i l hl
     simp only [Option.some.injEq] at h;subst h
     rw [fvInts_spec hl];rfl
    ·cases h
   ·cases h
 | .pv (.bool _) :: r,zs,h | .pv (.float _ _) :: r,zs,h | .pv (.complex _ _ _) :: r,zs,h | .pv (.string _) :: r,zs,h | .pv (.pointer _) :: r,zs,h | .pv (.slice _ _ _) :: r,zs,h
 | .pv (.map _) :: r,zs,h | .pv (.chan _) :: r,zs,h | .pv (.func _ _ _) :: r,zs,h | .pv .nilFunc :: r,zs,h | .pv (.iface _ _) :: r,zs,h | .pv .nilIface :: r,zs,h
 | .pv (.agg _) :: r,zs,h | .pv (.tuple _) :: r,zs,h | .agg _ :: r,zs,h | .sl _ :: r,zs,h=>by simp [fvInts] at h
theorem fvInts_map (enc:Int→FV) (h:∀ n,enc n=.pv (.int .i64 n)):∀ zs:List Int,fvInts (zs.map enc)=some zs
 | []=>rfl
 | n :: r=>by simp only [List.map_cons,h n,fvInts,fvInts_map enc h r]
def sortInts (zs:List Int):List Int:=zs.mergeSort fun x y=>decide (x≤y)
def compactInts (zs:List Int):List Int:=Lib.compact zs
def sortF (l:List FV):Option (List FV):=match fvInts l with
 | some zs=>if zs.length < 2 ^ 40 then some ((sortInts zs).map fun n=>.pv (.int .i64 n)) else none
 | none=>none
def compactF (l:List FV):Option (List FV):=match fvInts l with
 | some zs=>if zs.length < 2 ^ 40 then some ((compactInts zs).map fun n=>.pv (.int .i64 n)) else none
 | none=>none
theorem sortF_map (enc:Int→FV) (h:∀ n,enc n=.pv (.int .i64 n)) (zs:List Int) (hl:zs.length < 2 ^ 40):sortF (zs.map enc)=some ((sortInts zs).map enc):=by
 have:enc=fun n=>.pv (.int .i64 n):=funext h
 unfold sortF
 rw [fvInts_map enc h]
 dsimp only
 rw [if_pos hl,this]
theorem compactF_map (enc:Int→FV) (h:∀ n,enc n=.pv (.int .i64 n)) (zs:List Int) (hl:zs.length < 2 ^ 40):compactF (zs.map enc)=some ((compactInts zs).map enc):=by
 have:enc=fun n=>.pv (.int .i64 n):=funext h
 unfold compactF
 rw [fvInts_map enc h]
 dsimp only
 rw [if_pos hl,this]
abbrev HasF (P:Program) (g:FuncId):Prop:=∃ fn,P.funcs[g]?=some fn∧(fn.name == "runtime.NumGoroutine")=false∧fn.body.isNone=false
theorem ownB_ints {own:Own} {w:World} {b o:Nat} {E:TypeId} {k n:Nat} {zs:List Int} (h:OwnB P own w b o E k (zs.map fun n=>.pv (.int .i64 n)) n) (hE:esz P E=1) :
 ∃ arr,w.heap[k]?=some (.cells arr E (0,0))∧n≤arr.size∧Holds (Value.int .i64) w k 0 zs.toArray∧k < w.heap.size:=by
 obtain ⟨_,arr,h2,h3,h4,h5⟩:=h
 rw [hE] at h3 h5
 have hk:k < w.heap.size:=(Array.getElem?_eq_some_iff.1 h2).1
 refine ⟨arr,h2,by omega,fun j hj=>?_,hk⟩
 have hj':j < zs.length:=by simpa using hj
 obtain ⟨v,e1,e2⟩:=h5 j (.pv (.int .i64 zs[j])) 0 (.pv (.int .i64 zs[j])) (by simp [hj']) rfl
 cases e2
 have he:zs.toArray[j]! = zs[j]:=by simp [hj']
 constructor
 ·simp only [World.cell?,h2,Nat.zero_add]
  rw [he];simpa using e1
 ·simp [World.frozen?,h2]
theorem heap_putRow_ne {enc:Int→Value} {w:World} {k off j:Nat} {d:Array Int} (h:j≠k):(putRow enc w k off d).heap[j]?=w.heap[j]?:=by
 simp only [putRow,mapBlock,Array.getElem?_modify]
 rw [if_neg (Ne.symm h)]
theorem heap_putRow_eq {enc:Int→Value} {w:World} {k off:Nat} {d:Array Int} {arr:Array Value} {E:TypeId} {f:Nat×Nat} (h:w.heap[k]?=some (.cells arr E f)):(putRow enc w k off d).heap[k]?=some (.cells (putCells enc off d arr) E f):=by
 simp only [putRow,mapBlock,Array.getElem?_modify,if_true,h,Option.map_some]
 rfl
theorem ownB_put' {own:Own} {w w':World} {b o:Nat} {E:TypeId} {k n:Nat} {zs ys:List Int} (h:OwnB P own w b o E k (zs.map fun n=>.pv (.int .i64 n)) n) (hE:esz P E=1) {d:Array Int}
 (hw:w'.heap[k]?=(putRow (Value.int .i64) w k 0 d).heap[k]?) (hlen:ys.length≤d.size) (hd:∀ j,j < ys.length→d[j]! = ys[j]!) (hsz:d.size≤zs.length):OwnB P own w' b o E k (ys.map fun n=>.pv (.int .i64 n)) n:=by
 obtain ⟨h1,arr,h2,h3,h4,h5⟩:=h
 refine ⟨h1,putCells (Value.int .i64) 0 d arr,by rw [hw,heap_putRow_eq h2],by simpa [putCells] using h3,?_,?_⟩
 ·intro x hx
  simp only [List.mem_map] at hx
  obtain ⟨y,_,rfl⟩:=hx
  rw [hE];rfl
 ·intro i x j y e1 e2
  simp only [List.getElem?_map,Option.map_eq_some_iff] at e1
  obtain ⟨z,e1,rfl⟩:=e1
  have hj:j=0:=by
   cases j with
   | zero=>rfl
   | succ j=>simp [FV.cells] at e2
  subst hj
  have hi:i < ys.length:=(List.getElem?_eq_some_iff.1 e1).1
  simp [FV.cells] at e2;subst e2
  have hE':=hE
  rw [hE]
  refine ⟨.int .i64 z,?_,RF.pv _ rfl⟩
  have hia:i < arr.size:=by
   have hiz:i < zs.length:=by omega
   obtain ⟨v,e3,_⟩:=h5 i (.pv (.int .i64 zs[i])) 0 (.pv (.int .i64 zs[i])) (by simp [hiz]) rfl
   rw [hE] at e3
   have:=(Array.getElem?_eq_some_iff.1 e3).1
   omega
  simp only [putCells,Array.getElem?_mapIdx,Nat.mul_one,Nat.add_zero,Array.getElem?_eq_getElem hia,Option.map_some,Nat.zero_le,true_and,Nat.zero_add,Nat.sub_zero]
  rw [if_pos (by omega),hd i hi]
  have:=(List.getElem?_eq_some_iff.1 e1).2
  simp [hi,this]
theorem ip_sort {g:FuncId} (hf:HasF P g) (hE:∀ own w b o E l u k n,OwnL P own w b o E l u→OwnB P own w b o E k l n→l≠[]→(∀ x∈l,x.size=1)→esz P E=1)
 (hs:∀ (blk off cap:Nat) (zs:List Int) (w:World),Holds (Value.int .i64) w blk off zs.toArray→blk < w.heap.size→zs.length < 4611686018427387904→
   Calls P g #[.slice (some ⟨blk,off,none⟩) zs.length cap] w fun e w'=>e=.returned (.tuple #[])∧∃ n os,w'=grow (putRow (Value.int .i64) (Sort.ahead w n) blk off (zs.mergeSort fun x y=>decide (x≤y)).toArray) os)
 (hn:∀ (p:Option Addr) (cap:Nat) (w:World),Calls P g #[.slice p 0 cap] w fun e w'=>e=.returned (.tuple #[])∧w'=w):IpOk P g sortF false:=by
 refine ⟨hf,fun own w b o E l l' u hl hlt hone hu=>?_⟩
 unfold sortF at hl
 split at hl
 ·rename_i zs hz
  split at hl
  ·rename_i hlen
   simp only [Option.some.injEq] at hl;subst hl
   have hlz:=fvInts_spec hz
   subst hlz
   have hu0:=hu
   obtain ⟨a,c,rfl,hc,h3⟩:=hu
   by_cases hnil:zs=[]
   ·subst hnil
    refine (hn a c w).mono ?_
    rintro e w' ⟨rfl,rfl⟩
    refine ⟨_,rfl,Nat.le_refl _,fun _ _ _=>rfl,rfl,rfl,rfl,?_⟩
    rw [if_neg (by simp)]
    exact ⟨rfl,fun k n h=>by simpa [sortInts] using h⟩
   ·rcases h3 with ⟨_,h,_⟩ | ⟨k,rfl,hB⟩
    ·simp at h;exact absurd h hnil
    ·have hE1:esz P E=1:=hE _ _ _ _ _ _ _ _ _ hu0 hB (by simpa using hnil) (fun x hx=>by simp only [List.mem_map] at hx;obtain ⟨y,_,rfl⟩:=hx;rfl)
     obtain ⟨arr,q1,q2,q3,q4⟩:=ownB_ints hB hE1
     have hll:(zs.map fun n=>FV.pv (.int .i64 n)).length=zs.length:=by simp
     rw [hll] at hc ⊢
     refine (hs k 0 c zs w q3 q4 (by omega)).mono ?_
     rintro e w' ⟨rfl,m,os,rfl⟩
     have hheap:∀ j,j < w.heap.size→(grow (putRow (Value.int .i64) (Sort.ahead w m) k 0 (zs.mergeSort fun x y=>decide (x≤y)).toArray) os).heap[j]?=(putRow (Value.int .i64) w k 0 (zs.mergeSort fun x y=>decide (x≤y)).toArray).heap[j]?:=fun j hj=>by
      simp only [grow]
      rw [Array.getElem?_append_left (by simpa using hj)]
      rfl
     refine ⟨_,rfl,by simp [grow],fun j hj hne=>?_,rfl,rfl,rfl,?_⟩
     ·rw [hheap j hj,heap_putRow_ne]
      intro e;subst e;exact hne hB.1
     ·rw [if_neg (by simp)]
      refine ⟨rfl,fun k' n' hB'=>?_⟩
      have:k'=k:=hone _ _ _ hB'.1 hB.1
      subst this
      refine ownB_put' hB' hE1 (hheap k' q4) (by simp [sortInts]) (fun j hj=>by simp [sortInts]) (by simp)
  ·cases hl
 ·cases hl
theorem ip_compact {g:FuncId} (hf:HasF P g) (hE:∀ own w b o E l u k n,OwnL P own w b o E l u→OwnB P own w b o E k l n→l≠[]→(∀ x∈l,x.size=1)→esz P E=1)
 (hs:∀ (blk off cap:Nat) (zs:List Int) (w:World),Holds (Value.int .i64) w blk off zs.toArray→zs.length≤9223372036854775807→zs.length≤cap→
   Calls P g #[.slice (some ⟨blk,off,none⟩) zs.length cap] w fun e w'=>e=.returned (.slice (some ⟨blk,off,none⟩) (Lib.compact zs).length cap)∧∃ q,w'=putRow (Value.int .i64) (Sort.ahead w q) blk off (Lib.compact zs++List.replicate (zs.length - (Lib.compact zs).length) 0).toArray)
 (hn:∀ (a:Option Addr) (cap:Nat) (w:World),Calls P g #[.slice a 0 cap] w fun e w'=>e=.returned (.slice a 0 cap)∧w'=w)
 (hle:∀ zs,(Lib.compact zs:List Int).length≤zs.length):IpOk P g compactF true:=by
 refine ⟨hf,fun own w b o E l l' u hl hlt hone hu=>?_⟩
 unfold compactF at hl
 split at hl
 ·rename_i zs hz
  split at hl
  ·rename_i hlen
   simp only [Option.some.injEq] at hl;subst hl
   have hlz:=fvInts_spec hz
   subst hlz
   have hu0:=hu
   obtain ⟨a,c,rfl,hc,h3⟩:=hu
   have hcl:=hle zs
   by_cases hnil:zs=[]
   ·subst hnil
    have hc0:Lib.compact ([]:List Int)=[]:=List.length_eq_zero_iff.1 (by simpa using hcl)
    refine (hn a c w).mono ?_
    rintro e w' ⟨rfl,rfl⟩
    refine ⟨_,rfl,Nat.le_refl _,fun _ _ _=>rfl,rfl,rfl,rfl,?_⟩
    rw [if_pos rfl]
    simp only [compactInts,hc0,List.map_nil]
    exact hu0
   ·rcases h3 with ⟨_,h,_⟩ | ⟨k,rfl,hB⟩
    ·simp at h;exact absurd h hnil
    ·have hE1:esz P E=1:=hE _ _ _ _ _ _ _ _ _ hu0 hB (by simpa using hnil) (fun x hx=>by simp only [List.mem_map] at hx;obtain ⟨y,_,rfl⟩:=hx;rfl)
     obtain ⟨arr,q1,q2,q3,q4⟩:=ownB_ints hB hE1
     have hll:(zs.map fun n=>FV.pv (.int .i64 n)).length=zs.length:=by simp
     rw [hll] at hc ⊢
     refine (hs k 0 c zs w q3 (by omega) hc).mono ?_
     rintro e w' ⟨rfl,m,rfl⟩
     refine ⟨_,rfl,by simp,fun j hj hne=>?_,rfl,rfl,rfl,?_⟩
     ·rw [heap_putRow_ne]
      ·rfl
      ·intro e;subst e;exact hne hB.1
     ·rw [if_pos rfl]
      refine ⟨_,c,by simp [compactInts],by simp [compactInts];omega,.inr ⟨k,rfl,?_⟩⟩
      refine ownB_put' hB hE1 rfl (by simp [compactInts]) (fun j hj=>?_) (by simp;omega)
      simp only [compactInts] at hj ⊢
      have hj2:j < (Lib.compact zs++List.replicate (zs.length - (Lib.compact zs).length) 0).length:=by simp;omega
      simp [hj,List.getElem?_append_left hj]
  ·cases hl
 ·cases hl
theorem gr_grow {g:FuncId} {E:TypeId} (hf:HasF P g) (hsz:esz P E=1) (hE0:∀ w n,0 < n→n≤2 ^ 40→Calls P g #[.slice none 0 0,.int .i64 (n:Nat)] w fun e w'=>∃ cap arr m,e=.returned (.slice (some ⟨w.heap.size,0,none⟩) 0 cap)∧w'=({ w with drawn:=m }:World).alloc (.cells arr E)∧cap≤arr.size)
 (h0:∀ w,Calls P g #[.slice none 0 0,.int .i64 0] w fun e w'=>e=.returned (.slice none 0 0)∧w'=w):GrOk P g E:=by
 refine ⟨hf,fun w n hn hn2=>?_⟩
 by_cases hz:n=0
 ·subst hz
  exact (h0 w).mono fun e w' h=>.inl h
 ·obtain ⟨m,rfl⟩:∃ m:Nat,n=m:=⟨n.toNat,by omega⟩
  refine (hE0 w m (by omega) (by omega)).mono ?_
  rintro e w' ⟨cap,arr,q,rfl,rfl,hc⟩
  exact .inr ⟨cap,arr,q,rfl,rfl,by rw [hsz];omega⟩
end Go.Ev
set_option linter.unusedSimpArgs false
set_option linter.unusedVariables false
namespace Go.Ev
open Go Go.Proofs
set_option maxRecDepth 8000
def growRen:Go.Shelf.Ren:=⟨fun | 4=>104 | n=>n,fun | 22=>30 | 25=>3 | n=>n,fun n=>n⟩
theorem growLays:Lays8.n4 Try.prog growRen:={
 mixed:=by kernel_rfl
 f4:=⟨Try.f104.name,by rfl,Try.func104.trans (congrArg some (by kernel_rfl))⟩
 t0:=Try.underlying0
 a0:=Try.isAgg0
 z0:=Try.sizeOf0
 v0:=Try.zeroValue0
 t3:=Try.underlying3
 a3:=Try.isAgg3
 z3:=Try.sizeOf3
 v3:=Try.zeroValue3
 t4:=Try.underlying4
 a4:=Try.isAgg4
 z4:=Try.sizeOf4
 v4:=Try.zeroValue4
 t9:=Try.underlying9
 a9:=Try.isAgg9
 z9:=Try.sizeOf9
 v9:=Try.zeroValue9
 t20:=Try.underlying20
 a20:=Try.isAgg20
 z20:=Try.sizeOf20
 v20:=Try.zeroValue20
 t22:=Try.underlying30
 a22:=Try.isAgg30
 z22:=Try.sizeOf30
 v22:=Try.zeroValue30 }
def ipTab (g:FuncId):Option ((List FV→Option (List FV))×Bool):=
 match Nat.beq g 93 with
 | true=>some (sortF,false)
 | false=>match Nat.beq g 94 with
   | true=>some (compactF,true)
   | false=>none
def grTab (g:FuncId):Option TypeId:=
 match Nat.beq g 104 with
 | true=>some 3
 | false=>none
theorem esz_one {own:Own} {w:World} {b o:Nat} {E:TypeId} {l:List FV} {u:Value} {k n:Nat} (h:OwnL Try.prog own w b o E l u) (h2:OwnB Try.prog own w b o E k l n) (hne:l≠[]) (hs:∀ x∈l,x.size=1):esz Try.prog E=1:=by
 obtain ⟨_,arr,_,_,h4,_⟩:=h2
 cases l with
 | nil=>exact absurd rfl hne
 | cons x r=>rw [← h4 x (List.mem_cons_self ..)];exact hs x (List.mem_cons_self ..)
theorem sort_ok:IpOk Try.prog 93 sortF false:=
 ip_sort ⟨_,Try.func93,by rfl,by rfl⟩ (fun _ _ _ _ _ _ _ _ _ h h2 h3 h4=>esz_one h h2 h3 h4) Try.slices_Sort_int Try.slices_Sort_int_none
theorem compact_ok:IpOk Try.prog 94 compactF true:=
 ip_compact ⟨_,Try.func94,by rfl,by rfl⟩ (fun _ _ _ _ _ _ _ _ _ h h2 h3 h4=>esz_one h h2 h3 h4) Try.slices_Compact_int Try.slices_Compact_int_empty Lib.compact_length_le
theorem grow_ok:GrOk Try.prog 104 3:=by
 refine gr_grow ⟨_,Try.func104,by rfl,by rfl⟩ (by kernel_rfl) (fun w n h0 h1=>?_) (fun w=>?_)
 ·refine (Any8.slices_Grow_grow growLays Try.t3 (.int .i64 0) Try.type3 (by kernel_rfl) (Nat.le_of_ble_eq_true rfl) none 0 0 n [] w (Nat.le_refl _) (by omega) ?_ (by omega) rfl (fun _=>rfl) (fun a h=>by cases h)).mono ?_
  ·have:Try.t3.bytes=8:=rfl
   rw [this];omega
  ·rintro e w' ⟨rfl,rfl⟩
   refine ⟨_,_,w.drawn+1,rfl,rfl,?_⟩
   have h1:(Value.int IntKind.i64 0).cells.size=1:=rfl
   simp [Builtin.zeroCells,h1]
   omega
 ·exact (Any8.slices_Grow_room growLays none 0 0 0 w (Nat.le_refl _) (by omega) (by omega) (by omega)).mono fun e w' h=>h
def eqTab (t:TypeId):Bool:=Nat.beq t 69
noncomputable def cf (mv:List Nat) (nt:Nat):Cfg:=mkCfgV tyTab ipTab grTab eqTab mv nt
theorem cfOk (mv:List Nat) (nt:Nat):COk Try.prog (cf mv nt):=by
 refine mkCfgV_ok tyTab_ok (by rfl) ⟨fun g f back h=>?_,fun g E h=>?_,fun t h=>?_⟩
 ·change ipTab g=some (f,back) at h
  unfold ipTab at h
  split at h
  ·rename_i e
   simp only [Option.some.injEq,Prod.mk.injEq] at h
   obtain ⟨rfl,rfl⟩:=h
   rw [Nat.eq_of_beq_eq_true e];exact sort_ok
  ·split at h
   ·rename_i e
    simp only [Option.some.injEq,Prod.mk.injEq] at h
    obtain ⟨rfl,rfl⟩:=h
    rw [Nat.eq_of_beq_eq_true e];exact compact_ok
   ·cases h
 ·change grTab g=some E at h
  unfold grTab at h
  split at h
  ·rename_i e
   simp only [Option.some.injEq] at h;subst h
   rw [Nat.eq_of_beq_eq_true e];exact grow_ok
  ·cases h
 ·rw [Nat.eq_of_beq_eq_true h]
  exact ⟨Try.stoodInHeld69,Try.eqGuardType69,by kernel_rfl⟩
end Go.Ev
set_option linter.unusedVariables false
set_option linter.unusedSimpArgs false
namespace Go.Ev
open Go Go.Proofs
set_option maxRecDepth 8000
noncomputable def cfr (mv:List Nat) (nt:Nat):Cfg:={ cf mv nt with rnd:=true }
theorem cfrOk (mv:List Nat) (nt:Nat):COk Try.prog (cfr mv nt):=⟨(cfOk mv nt).cfg,ipsOk_same (cfOk mv nt).ip rfl rfl rfl,(cfOk mv nt).ro⟩
theorem back_ok_134:BackOk Try.prog 134 enc_place_piece:=
 back_of (c:=cf [] 19) (cfOk [] 19) Try.func134 (by rfl) (by rfl) (by rfl) (by rfl) (agg:=true) (sz:=3) (fun x=>by simp [FV.fits,FV.size,FV.cells,FV.one,enc_place_piece_eq]) (fun x=>rfl) (fun h=>by cases h) (by rfl)
  (by rfl) (by rfl) (by rfl) (by rfl) (pre:=(opsOf (sq1 (sq1 (sq1 (sq2 (sq1 (sq1 (sq2 (bodyOf Try.f134))))))))).take 6) (by rfl) (by rfl) (by rfl) (by rfl)
  (fun yv xs=>⟨[],[(1,.f (.pv yv)),(4,.fp (.sl (xs.map (encX true 3))) 0),(10,vi (w64 (((xs.map (encX true 3)).length:Int) - 1))),(13,.f (.sl (xs.map (encX true 3)))),(16,vi (((xs.map (encX true 3)).length:Int))),(19,vi (w64 (((xs.map (encX true 3)).length:Int) - 1)))],by kernel_rfl,by rfl⟩)
  (fun yv xs i=>⟨[],[(1,.f (.pv yv)),(4,.fp (.sl (xs.map (encX true 3))) 0),(10,vi i),(22,vi i),(25,vB (decide (i≥0)))],by kernel_rfl,by rfl,by rfl⟩)
  (fun yv xs i=>⟨[],[(1,.f (.pv yv)),(4,.fp (.sl (xs.map (encX true 3))) 0),(10,vi (w64 (i - 1))),(28,vi i),(31,vi (w64 (i - 1)))],by kernel_rfl,by rfl⟩)
  (fun yv xs i x=>⟨[],[(1,.f (.pv yv)),(4,.fp (.sl (xs.map (encX true 3))) 0),(10,vi i),(34,.f (.pv yv)),(37,vi i),(40,.f (.sl (xs.map (encX true 3)))),(43,vi i),(46,.fp (encX true 3 x) 0),(49,asAV (encX true 3 x))],by kernel_rfl,by rfl,by rfl,by rfl,by rfl⟩) (fun b=>⟨[],[(52,vB b),(55,vB (!b))],by kernel_rfl,by rfl⟩) (by simp)
theorem backward_121 (l:List place_piece):CallE Try.prog 121 [vL enc_place_piece l] [] (.clo 134 [.fp (.sl (List.map enc_place_piece l)) 0]) []:=by
 refine callE_semW (x:=bodyOf Try.f121) (cfOk [] 4) Try.func121 (by rfl) (by rfl) (by rfl) (Nat.le_of_ble_eq_true rfl) (by rfl) (by rfl) (Nat.le_of_ble_eq_true rfl) ?_
 refine wkS [1] [(1,vL enc_place_piece l)] (by kernel_rfl) ?_
 refine sR (cfOk [] 4) [] [4,8] [(4,.ptr 8 0),(8,vL enc_place_piece l)] (obs:=[]) (by kernel_rfl) (by kernel_rfl) obN ?_
 refine sR (cfOk [] 4) [] [7,8] [(7,.clo 134 [.ptr 8 0]),(8,vL enc_place_piece l)] (obs:=[]) (by kernel_rfl) (by kernel_rfl) obN ?_
 refine Sem.ret' (by kernel_rfl) Wk.refl ?_
 refine ⟨_,Wk.fpz (b:=8) (x:=.sl (List.map enc_place_piece l)) (by rfl) (by rfl) (by rfl),?_⟩
 exact (evEnd_endK (x:=.clo 134 [.fp (.sl (List.map enc_place_piece l)) 0]) (l:=[]) (by kernel_rfl) ⟨rfl,rfl⟩).1
def C_slices_Backward__place_piece_place_piece (a0:List place_piece):Prop:=CallE Try.prog 121 [vL enc_place_piece a0] [] (.clo 134 [.fp (.sl (List.map enc_place_piece a0)) 0]) []
end Go.Ev
set_option linter.unusedVariables false
set_option linter.unusedSimpArgs false
namespace Go.Ev
open Go Go.RowKit
variable {P : Program}
section
variable {CE : CEx} {c : Cfg} {G G' : Sta} {own : Own} {a : Act} {w : World} {ops : Array Oper} {X : Nat → Nat → Bool}
variable {F : Fence} {n : Nat} {Q : Exit → Act → World → Prop}
def Tp (ops:Array Oper):List Ent→Prop
 | []=>True
 | x :: r=>(∀ o,ops[x.i]?=some o→∀ e∈o.after,Region.binds .any e=true→e.on < ops.size∧∀ y∈x :: r,e.on≠y.i)∧Tp ops r
def entOkX (ops:Array Oper) (X:Nat→Nat→Bool):List Ent→Prop
 | []=>True
 | x :: r=>(∀ y∈r,anc ops ops.size x.i y.i=false→X x.i y.i=false→x.ind y)∧entOkX ops X r
theorem Tp.mid:∀ {p:List Ent} {y:Ent} {r:List Ent},Tp ops (p++y :: r)→Tp ops (p++r)
 | [],y,r,h=>h.2
 | x :: p,y,r,h=>by
   refine ⟨fun o ho e he hb=>?_,Tp.mid h.2⟩
   obtain ⟨h1,h2⟩:=h.1 o ho e he hb
   refine ⟨h1,fun z hz=>h2 z ?_⟩
   show z∈(x :: p)++y :: r
   have hz:z∈(x :: p)++r:=hz
   rcases List.mem_append.1 hz with hz | hz
   ·exact List.mem_append_left _ hz
   ·exact List.mem_append_right _ (List.mem_cons_of_mem _ hz)
theorem entOkX.mid:∀ {p:List Ent} {y:Ent} {r:List Ent},entOkX ops X (p++y :: r)→(∀ x∈p,anc ops ops.size x.i y.i=false→X x.i y.i=false→x.ind y)∧entOkX ops X (p++r)
 | [],y,r,h=>⟨fun x hx=>by simp at hx,h.2⟩
 | x :: p,y,r,h=>by
   obtain ⟨h1,h2⟩:=h
   obtain ⟨h3,h4⟩:=entOkX.mid h2
   refine ⟨fun z hz=>?_,fun z hz=>h1 z ?_,h4⟩
   ·rcases List.mem_cons.1 hz with rfl | hz
    ·exact h1 y (by simp)
    ·exact h3 z hz
   ·have hz:z∈p++r:=hz
    show z∈p++y :: r
    rcases List.mem_append.1 hz with hz | hz
    ·exact List.mem_append_left _ hz
    ·exact List.mem_append_right _ (List.mem_cons_of_mem _ hz)
structure Pl (ops:Array Oper) (X:Nat→Nat→Bool) (es:List Ent) (listed:Array Bool):Prop where
 sz:listed.size=ops.size
 cl:Closed ops listed
 ls:∀ i,i < ops.size→(listed.getD i true=false↔i∈es.map (·.i))
 lt:∀ x∈es,x.i < ops.size
 nd:(es.map (·.i)).Nodup
 tp:Tp ops es
 ok:entOkX ops X es
theorem Pl.pick {es:List Ent} {listed:Array Bool} (h:Pl ops X es listed) {i:Nat} (hi:i∈Region.ready .any ops listed) (hX:∀ x∈es,x.i≠i→X x.i i=false) (hrun:Runs CE (stepRM c ops) es G G') :
 ∃ (y:Ent) (es':List Ent),y.i=i∧(stepRM c ops y.i).wp CE G [] (fun U' T'=>U'=y.U∧T'=y.T)∧Runs CE (stepRM c ops) es' (app y.U G) G'∧Pl ops X es' (listed.setIfInBounds i true)∧es'.length+1=es.length∧(∀ z∈es',z∈es)∧(∀ z∈es',z.i≠i)∧∀ z∈es,z.i≠i→z∈es':=by
 obtain ⟨h1,o,ho,hready⟩:=mem_ready.1 hi
 have hilt:i < ops.size:=(Array.getElem?_eq_some_iff.1 ho).1
 have hmem:=(h.ls i hilt).1 h1
 obtain ⟨y,hy,rfl⟩:=List.mem_map.1 hmem
 obtain ⟨p,r,rfl⟩:=List.append_of_mem hy
 obtain ⟨hm1,hm2⟩:=entOkX.mid h.ok
 have hnd:=h.nd
 have hnotin:∀ z∈p++r,z.i≠y.i:=by
  intro z hz e
  rw [List.map_append,List.map_cons,List.nodup_append,List.nodup_cons] at hnd
  rcases List.mem_append.1 hz with hz | hz
  ·exact hnd.2.2 z.i (List.mem_map.2 ⟨z,hz,rfl⟩) y.i (by simp) e
  ·exact hnd.2.1.1 (e▸List.mem_map.2 ⟨z,hz,rfl⟩)
 have hind:∀ x∈p,x.ind y:=by
  intro x hx
  refine hm1 x hx ?_ (hX x (List.mem_append_left _ hx) (hnotin x (List.mem_append_left _ hx)))
  cases ha:anc ops ops.size x.i y.i with
  | false=>rfl
  | true=>
    have hxl:=anc_listed h.sz h.cl ops.size x.i y.i ha (fun o' ho' e he hb=>by rw [ho] at ho';cases ho';exact hready e he hb)
    have hxlt:=h.lt x (List.mem_append_left _ hx)
    have:listed.getD x.i true=false:=(h.ls x.i hxlt).2 (by simp [List.mem_map];exact .inl ⟨x,hx,rfl⟩)
    have hsz:=h.sz
    simp only [Array.getD_eq_getD_getElem?,Array.getElem?_eq_getElem (show x.i < listed.size by omega),Option.getD_some] at hxl this
    rw [hxl] at this;cases this
 obtain ⟨r1,r2⟩:=Runs.front hind hrun
 have hsub:(p++r).Sublist (p++y :: r):=List.Sublist.append (List.Sublist.refl _) (List.sublist_cons_self _ _)
 refine ⟨y,p++r,rfl,r1,r2,⟨by simpa using h.sz,?_,?_,fun x hx=>h.lt x (hsub.mem hx),hnd.sublist (hsub.map _),h.tp.mid,hm2⟩,by simp;omega,fun z hz=>hsub.mem hz,hnotin,?_⟩
 ·intro j o' ho' hj e he hb
  have hlst:listed.getD e.on false=true→(listed.setIfInBounds y.i true).getD e.on false=true:=fun h=>getD_set_true h
  by_cases hjy:y.i=j
  ·subst hjy
   rw [ho] at ho';cases ho'
   exact hlst (hready e he hb)
  ·rw [getD_set_ne true hjy] at hj
   exact hlst (h.cl j o' ho' hj e he hb)
 ·intro j hj
  by_cases hjy:y.i=j
  ·subst hjy
   have hsz:=h.sz
   have:(listed.setIfInBounds y.i true).getD y.i true=true:=by
    simp [Array.getD_eq_getD_getElem?,Array.getElem?_setIfInBounds,show y.i < listed.size by omega]
   rw [this]
   simp only [Bool.true_eq_false,false_iff]
   intro hmem
   obtain ⟨z,hz,e⟩:=List.mem_map.1 hmem
   exact hnotin z hz e
  ·rw [getD_set_ne true hjy,h.ls j hj]
   simp only [List.map_append,List.map_cons,List.mem_append,List.mem_cons]
   constructor
   ·rintro (h | h | h)
    ·exact .inl h
    ·exact absurd h.symm hjy
    ·exact .inr h
   ·rintro (h | h)
    ·exact .inl h
    ·exact .inr (.inr h)
 ·intro z hz hzi
  rcases List.mem_append.1 hz with hz | hz
  ·exact List.mem_append_left _ hz
  ·rcases List.mem_cons.1 hz with rfl | hz
   ·exact absurd rfl hzi
   ·exact List.mem_append_right _ hz
theorem Pl.done {es:List Ent} {listed:Array Bool} (he:es=[]) (s:St P c.nt G own a w) (h:Runs CE (stepRM c ops) es G G')
 (hq:∀ own' a' w',St P c.nt G' own' a' w'→Tr own w own' w'→a'.defers=a.defers→Q .normal a' w'):Q .normal a w:=by
 subst he
 have:G=G':=h
 subst this
 exact hq own a w s (Tr.refl _ _) rfl
theorem Pl.end {es:List Ent} {listed:Array Bool} (h:Pl ops X es listed) (he:es=[]):Region.ready .any ops listed=[]:=by
 subst he
 cases hr:Region.ready .any ops listed with
 | nil=>rfl
 | cons i r=>
   have:i∈Region.ready .any ops listed:=by rw [hr];exact List.mem_cons_self ..
   obtain ⟨h1,o,ho,_⟩:=mem_ready.1 this
   have hi:i < ops.size:=(Array.getElem?_eq_some_iff.1 ho).1
   have:=(h.ls i hi).1 h1
   simp at this
end
end Go.Ev
set_option linter.unusedVariables false
set_option linter.unusedSimpArgs false
namespace Go.Ev
open Go Go.RowKit
variable {P : Program}
section
variable {c : Cfg} {ops : Array Oper}
end
def steal (b off:Nat) (G:Sta):Sta:=
 match look G b (some off) with
 | some (.rf sb j 0 n)=>match look G sb (some j) with
   | some (.own E l)=>match Nat.beq (b % 3) 1 || isM b with
     | true=>G
     | false=>app [.leaf sb j .bad,.leaf b off (.own E (l.take n))] G
   | _=>G
 | _=>G
theorem Wk.steal {c:Cfg} {G:Sta} (b off:Nat):Wk P c.nt G (Ev.steal b off G):=by
 intro own a w s
 unfold Ev.steal
 split
 ·rename_i sb j n h1
  split
  ·rename_i E l h2
   split
   ·exact ⟨own,s,Tr.refl _ _⟩
   ·rename_i hb
    simp only [Bool.or_eq_false_iff] at hb
    obtain ⟨hb,hmm⟩:=hb
    have hb:b % 3≠1:=fun e=>by rw [e] at hb;simp at hb
    simp only [look,Option.bind_eq_some_iff,Option.filter_eq_some_iff] at h1
    obtain ⟨v,hg,hv,_⟩:=h1
    obtain ⟨k,arr,TT,e1,e2,e3,e4⟩:=s.boxes b v hb hmm hg
    have hoff:off < v.leaves.length:=(List.getElem?_eq_some_iff.1 hv).1
    obtain ⟨u,hu⟩:∃ u,arr[off]?=some u:=⟨arr[off]'(by omega),by simp [show off < arr.size by omega]⟩
    have hr:SlV P G own w sb j 0 n u:=e4 off _ _ hv hu
    obtain ⟨_,hown⟩:=slv_own h2 hr
    obtain ⟨r1,s1,K1,K2⟩:=store_own (c:=c) s hb hmm e1 (show lenOf G b=some v.leaves.length by simp [lenOf,hg]) hoff hown
    rw [setCell_self e2 hu] at s1 K2
    exact ⟨_,s1,K1.tr.trans K2.tr⟩
  ·exact ⟨own,s,Tr.refl _ _⟩
 ·exact ⟨own,s,Tr.refl _ _⟩
theorem Sem.cfg {c c':Cfg} {x:Code} {G:Sta} {K:Ex→Sta→Prop} (h1:c'.nt=c.nt) (h2:c'.rnd=c.rnd) (h:Sem P c' x G K):Sem P c x G K:=by
 unfold Sem WideC at h ⊢
 rw [h1,h2] at h
 exact h
theorem COk.vs {c:Cfg} (h:COk P c) (vs:Nat→Bool):COk P { c with vs:=vs }:=⟨h.cfg,ipsOk_same h.ip rfl rfl rfl,h.ro⟩
theorem Wk.st {c:Cfg} {G G':Sta} {keep:List Nat} (b off:Nat) (h:Ev.tidy [] keep (Ev.steal b off G)=G'):Wk P c.nt G G':=(Wk.steal b off).trans (Wk.eq h)
end Go.Ev
set_option linter.unusedVariables false
set_option linter.unusedSimpArgs false
namespace Go.Ev
open Go Go.RowKit
variable {P : Program}
theorem RF.to_no {own:Own} {w:World} {x:FV} {u:Value} (h:RF own w x u):RF no w x u:=h.mono0 fun _ _=>rfl
theorem st_temps {G:Sta} {nt:Nat} {a:Act} {w:World} (hs:a.tmps.size=nt) (h:∀ b v,get G b=some v→∃ t u,b=tb t∧a.tmps[t]?=some u∧RL P G no w b v u):St P nt G no a w:=
 ⟨hs,fun t v e=>by
   obtain ⟨t',u,e1,e2,e3⟩:=h _ _ e
   have:=tb_inj e1;subst this;exact ⟨u,e2,e3⟩,
  fun b v hb _ e=>by obtain ⟨t,u,rfl,_⟩:=h _ _ e;simp [tb] at hb,
  fun b v hm e=>by obtain ⟨t,u,rfl,_⟩:=h _ _ e;exact absurd (by simp only [tb];omega) (isM_box hm),
  fun k k' o h=>(nomatch h),fun k o h=>(nomatch h)⟩
section
variable {c : Cfg} {F : Fence} {n : Nat} {Q : Exit → Act → World → Prop} {ops : Array Oper}
def nod (ts:List Tmp) (ops:List Oper):Bool:=ops.all fun o=>ts.all fun t=>o.dst != some t
theorem nod_get {ts:List Tmp} {ops:Array Oper} (h:nod ts ops.toList=true) {i:Nat} {o:Oper} (ho:ops[i]?=some o) {t:Tmp} (ht:t∈ts):o.dst≠some t:=by
 have:=List.all_eq_true.1 (List.all_eq_true.1 h o (by rw [← Array.getElem?_toList] at ho;exact List.mem_of_getElem? ho)) t ht
 simpa using this
theorem wpOps_keep5 {t0 t1 t2 t3 t4:Tmp} (l:List Nat) {a:Act} {w:World} (hd:nod [t0,t1,t2,t3,t4] ops.toList=true)
 (h:wpOpsIn F n P ops (fun e a' w'=>(e=.normal→a'.tmps[t4]?=a.tmps[t4]?)→(e=.normal→a'.tmps[t3]?=a.tmps[t3]?)→(e=.normal→a'.tmps[t2]?=a.tmps[t2]?)→(e=.normal→a'.tmps[t1]?=a.tmps[t1]?)→(e=.normal→a'.tmps[t0]?=a.tmps[t0]?)→Q e a' w') l a w):wpOpsIn F n P ops Q l a w:=
 wpOps_keep (t:=t0) _ (fun i _ o h=>nod_get hd h (by simp)) (wpOps_keep (t:=t1) _ (fun i _ o h=>nod_get hd h (by simp)) (wpOps_keep (t:=t2) _ (fun i _ o h=>nod_get hd h (by simp)) (wpOps_keep (t:=t3) _ (fun i _ o h=>nod_get hd h (by simp)) (wpOps_keep (t:=t4) _ (fun i _ o h=>nod_get hd h (by simp)) h))))
structure Kp5 (t0 t1 t2 t3 t4:Tmp) (a a':Act):Prop where
 k0:a'.tmps[t0]?=a.tmps[t0]?
 k1:a'.tmps[t1]?=a.tmps[t1]?
 k2:a'.tmps[t2]?=a.tmps[t2]?
 k3:a'.tmps[t3]?=a.tmps[t3]?
 k4:a'.tmps[t4]?=a.tmps[t4]?
theorem regK (hc:COk P c) (hF:WideF P F) {t0 t1 t2 t3 t4:Tmp} {id:Nat} {q:List Ora} {G G':Sta} {obs:List Prop} {log:List Lg} {own:Own} {a:Act} {w:World} (h:evOps (CallE P) c ops false ops.toList 0 [] G q=some (obs,log,G')) (ho:AllP obs)
 (hd:nod [t0,t1,t2,t3,t4] ops.toList=true) (s:St P c.nt G own a w)
 (hq:∀ own' a' w',St P c.nt G' own' a' w'→Tr own w own' w'→a'.defers=a.defers→Kp5 t0 t1 t2 t3 t4 a a'→Q .normal a' w'):(Code.region id ops false).wpIn F n P Q a w:=by
 refine wpIn_region (wpOps_keep5 _ hd ?_)
 refine wpOps_pre hc hF (pre:=ops.toList) (rest:=[]) (by simp) h ho s ?_
 intro own' a' w' s' t' d' h4 h3 h2 h1 h0
 exact hq own' a' w' s' t' d' ⟨h0 rfl,h1 rfl,h2 rfl,h3 rfl,h4 rfl⟩
theorem nmt {a:Act} {t:Tmp} {i:Int} (h:a.tmps[t]?=some (.int .i64 i)) {N:Nat} {k:Nat} (e:i=k):(match a.tmps[t]? with
 | some (Value.int _ v)=>N - v.toNat
 | _=>0)=N - k:=by rw [h];subst e;rfl
theorem yloop (hc:COk P c) (hF:WideF P F) {bx b1 iB i2 i3 iD:Nat} {oB o2 o3 oD:Array Oper} {tl tn ti tc te ty tx to_ tq t1:Tmp} {x:Code} (hnt:0 < c.nt∧to_ < c.nt∧tl < c.nt∧tn < c.nt∧ti < c.nt∧te < c.nt)
 (hx:x=.block bx (.loop (.seq (.region iB oB false) (.seq (.cond (.tmp tc) .skip (.exit bx)) (.seq (.block b1 (.seq (.region i2 o2 false) (.seq (.region i3 o3 false) (.cond (.tmp tq) .ret .skip)))) (.region iD oD false))))))
 {yv s:Value} {vs:List Value} (hyc:yv.oneCell'=true) (hvl:(vs.length:Int)≤9223372036854775807)
 (dB:nod [0,t1,tl,tn,ti] oB.toList=true) (d2:nod [0,t1,tl,tn,ti] o2.toList=true) (d3:nod [0,t1,tl,tn,ti] o3.toList=true) (dD:nod [0,t1,tl,tn,t1] oD.toList=true)
 {pre:List Oper} {oc on:Oper} {ats:Array TypeId} (h3:o3.toList=pre++[oc,on]) (hoc:oc.op=.call { callee:=.value (.tmp ty),args:=#[.tmp tx],argTypes:=ats }) (hocd:oc.dst=some to_) (hocg:oc.guard=none)
 (hlt:0 < tl∧tl < tn∧tn < ti∧0 < te)
 (kB:∀ i:Nat,∃ log G',evOps (CallE P) c oB false oB.toList 0 [] [(1,.f (.pv yv)),(tb tl,.f (.sl (vs.map .pv))),(tb tn,.f (.pv (.int .i64 (vs.length:Int)))),(tb ti,.f (.pv (.int .i64 (i:Int))))] []=some ([],log,G')∧get G' (tb tc)=some (.f (.pv (.bool (decide ((i:Int) < (vs.length:Int)))))))
 (k2:∀ (i:Nat) v,∃ log G',evOps (CallE P) c o2 false o2.toList 0 [] [(1,.f (.pv yv)),(tb tl,.f (.sl (vs.map .pv))),(tb tn,.f (.pv (.int .i64 (vs.length:Int)))),(tb ti,.f (.pv (.int .i64 (i:Int))))] [.e (.pv v)]=some ([(0:Int)≤i,(vs.map FV.pv)[(i:Int).toNat]?=some (.pv v)],log,G')∧get G' (tb te)=some (.f (.pv v)))
 (k3:∀ v,∃ log G',evOps (CallE P) c o3 false pre 0 [] [(1,.f (.pv yv)),(tb te,.f (.pv v))] []=some ([],log,G')∧get G' (tb ty)=some (.f (.pv yv))∧get G' (tb tx)=some (.f (.pv v)))
 (kN:∀ b,∃ log G',evOps (CallE P) c o3 false [on] (pre.length+1) [] [(tb to_,.f (.pv (.bool b)))] []=some ([],log,G')∧get G' (tb tq)=some (.f (.pv (.bool (!b)))))
 (kD:∀ i:Nat,∃ log G',evOps (CallE P) c oD false oD.toList 0 [] [(1,.f (.pv yv)),(tb tl,.f (.sl (vs.map .pv))),(tb tn,.f (.pv (.int .i64 (vs.length:Int)))),(tb ti,.f (.pv (.int .i64 (i:Int))))] []=some ([],log,G')∧get G' (tb ti)=some (.f (.pv (.int .i64 (IntKind.wrap .i64 ((i:Int)+1))))))
 (hond:to_≠0∧to_≠t1∧to_≠tl∧to_≠tn∧to_≠ti)
 {own:Own} {w0:World} (hlt0:∀ k o,own k=some o→k < w0.heap.size) {lp:Nat} (hyv:yv=Value.func (.yield lp) #[] #[]) {J:Nat→World→Prop} {S:World→Prop} {ok:Nat→Array Value→Prop} {M k0:Nat}
 (hst:∀ i W1 W2,J i W1→Grow W1 W2→J i W2) (hss:∀ W1 W2,S W1→Grow W1 W2→S W2)
 (hyield:∀ m i x W1,J i W1→i < M→ok i x→KU (fun k=>k < w0.heap.size∧(own k=none∨∃ o,own k=some (.al o))) w0 W1→YieldAt F m P lp x W1 fun e W'=>((e=.returned (.bool true)∧J (i+1) W')∨(e=.returned (.bool false)∧S W'))∧KU (fun k=>k < w0.heap.size∧(own k=none∨∃ o,own k=some (.al o))) w0 W')
 (hM:k0+vs.length≤M) (hok:∀ i v u,vs[i]?=some v→u=v→ok (k0+i) #[u]) (hsl:RF own w0 (.sl (vs.map .pv)) s)
 {a:Act} {W:World} (z0:a.tmps.size=c.nt) (z1:a.tmps[0]?=some yv) (z2:a.tmps[tl]?=some s) (z3:a.tmps[tn]?=some (.int .i64 (vs.length:Int))) (z4:a.tmps[ti]?=some (.int .i64 0)) (zd:a.defers=[]) (hJ:J k0 W) (hK:KU (fun k=>k < w0.heap.size∧(own k=none∨∃ o,own k=some (.al o))) w0 W)
 (hcont:∀ a' W',a'.tmps.size=c.nt→a'.tmps[0]?=some yv→a'.tmps[t1]?=a.tmps[t1]?→a'.defers=[]→J (k0+vs.length) W'→KU (fun k=>k < w0.heap.size∧(own k=none∨∃ o,own k=some (.al o))) w0 W'→Q .normal a' W')
 (hret:∀ a' W',a'.defers=[]→S W'→Q .ret a' W'):x.wpIn F n P Q a W:=by
 subst hx
 have hU:∀ k,(k < w0.heap.size∧(own k=none∨∃ o,own k=some (.al o)))→k < w0.heap.size:=fun k h=>h.1
 have base:∀ (a:Act) (w:World) (i:Nat),a.tmps.size=c.nt→a.tmps[0]?=some yv→a.tmps[tl]?=some s→a.tmps[tn]?=some (.int .i64 (vs.length:Int))→a.tmps[ti]?=some (.int .i64 (i:Int))→KU (fun k=>k < w0.heap.size∧(own k=none∨∃ o,own k=some (.al o))) w0 w→
  St P c.nt [(1,.f (.pv yv)),(tb tl,.f (.sl (vs.map .pv))),(tb tn,.f (.pv (.int .i64 (vs.length:Int)))),(tb ti,.f (.pv (.int .i64 (i:Int))))] no a w:=by
  intro a w i hs h0 h1 h2 h3 hk
  refine st_temps hs fun b v e=>?_
  simp only [get] at e
  split at e
  ·rename_i hb;cases e;exact ⟨0,yv,hb,h0,⟨rfl,.pv _ hyc⟩⟩
  ·split at e
   ·rename_i hb;cases e;exact ⟨tl,s,hb,h1,⟨rfl,(hsl.mono (hk.tr hlt0)).to_no⟩⟩
   ·split at e
    ·rename_i hb;cases e;exact ⟨tn,_,hb,h2,⟨rfl,.pv _ rfl⟩⟩
    ·split at e
     ·rename_i hb;cases e;exact ⟨ti,_,hb,h3,⟨rfl,.pv _ rfl⟩⟩
     ·cases e
 refine wpIn_block ?_
 refine wpIn_loop (fun a' w'=>∃ i:Nat,i≤vs.length∧J (k0+i) w'∧KU (fun k=>k < w0.heap.size∧(own k=none∨∃ o,own k=some (.al o))) w0 w'∧a'.tmps.size=c.nt∧a'.tmps[0]?=some yv∧a'.tmps[tl]?=some s∧a'.tmps[tn]?=some (.int .i64 (vs.length:Int))∧a'.tmps[ti]?=some (.int .i64 (i:Int))∧a'.tmps[t1]?=a.tmps[t1]?∧a'.defers=[])
  (fun a' _=>match a'.tmps[ti]? with
    | some (Value.int _ v)=>vs.length - v.toNat
    | _=>0) ⟨0,Nat.zero_le _,hJ,hK,z0,z1,z2,z3,z4,rfl,zd⟩ ?_
 rintro a1 w1 ⟨i,hi,hJ1,hk1,y0,y1,y2,y3,y4,y5,yd⟩
 rw [nmt y4 rfl]
 refine wpIn_seq ?_
 obtain ⟨logB,GB,eB,gB⟩:=kB i
 refine regK hc hF eB trivial dB (base a1 w1 i y0 y1 y2 y3 y4 hk1) ?_
 intro ownB aB wB sB tB dfB KB
 have hJB:=hst _ _ _ hJ1 (tr_no tB)
 have hkB:=(tr_no tB).ku hk1 hU
 have zB:=sB.size
 have pc:=temp_pv (t:=tc) sB gB
 refine wpIn_seq ?_
 refine wpIn_cond (show aB.eval (.tmp tc)=.bool (decide ((i:Int) < (vs.length:Int))) from getD_of pc) ?_
 rcases Nat.lt_or_ge i vs.length with hl | hl'
 case' inr=>
  rw [show decide ((i:Int) < (vs.length:Int))=false from by simp;omega]
  refine wpIn_exit ?_
  have hie:i=vs.length:=by omega
  subst hie
  show Exit.inBlock bx Q (.exit bx) aB wB
  simp only [Exit.inBlock,if_true]
  exact hcont aB wB zB (KB.k0.trans y1) (KB.k1.trans y5) (dfB.trans yd) hJB hkB
 rw [show decide ((i:Int) < (vs.length:Int))=true from by simp;omega]
 refine wpIn_skip ?_
 refine wpIn_seq (wpIn_block (wpIn_seq ?_))
 obtain ⟨v,hv⟩:∃ v,vs[i]?=some v:=⟨vs[i],by simp⟩
 obtain ⟨log2,G2,e2,g2⟩:=k2 i v
 refine regK hc hF e2 ⟨by omega,by rw [Int.toNat_natCast,List.getElem?_map,hv];rfl,trivial⟩ d2 (base aB wB i zB (KB.k0.trans y1) (KB.k2.trans y2) (KB.k3.trans y3) (KB.k4.trans y4) hkB) ?_
 intro own2 a2 w2 s2 t2 df2 K2
 have hJ2:=hst _ _ _ hJB (tr_no t2)
 have hk2:=(tr_no t2).ku hkB hU
 have pe:=temp_pv (t:=te) s2 g2
 have hve:v.oneCell'=true:=by
  obtain ⟨u,hu,hr⟩:=s2.temps te _ g2
  have hr:RC own2 w2 (.f (.pv v)) u:=hr
  cases hr.2;assumption
 obtain ⟨log3,G3,e3,g3,g3x⟩:=k3 v
 refine wpIn_seq (wpIn_region (wpOps_keep5 _ d3 ?_))
 have s2':St P c.nt [(1,.f (.pv yv)),(tb te,.f (.pv v))] no a2 w2:=by
  refine st_temps s2.size fun b v' e=>?_
  simp only [get] at e
  split at e
  ·rename_i hb;cases e;exact ⟨0,yv,hb,K2.k0.trans (KB.k0.trans y1),⟨rfl,.pv _ hyc⟩⟩
  ·split at e
   ·rename_i hb;cases e;exact ⟨te,_,hb,pe,⟨rfl,.pv _ hve⟩⟩
   ·cases e
 refine wpOps_pre hc hF (pre:=pre) (rest:=[oc,on]) h3 e3 trivial s2' ?_
 intro own3 a3 w3 s3 t3 df3
 have ry:=temp_pv (t:=ty) s3 g3
 have rx:=temp_pv (t:=tx) s3 g3x
 have hJ3:=hst _ _ _ hJ2 (tr_no t3)
 have hk3:=(tr_no t3).ku hk2 hU
 show wpOpsIn F n P o3 _ (pre.length :: (pre.length+1) :: []) a3 w3
 have hocI:o3[pre.length]?=some oc:=by
  rw [← Array.getElem?_toList,h3,List.getElem?_append_right (Nat.le_refl _)];simp
 unfold wpOpsIn
 rw [hocI]
 dsimp only
 rw [if_pos (by simp [Region.wanted,hocg])]
 have hv11:a3.eval (.tmp ty)=.func (.yield lp) #[] #[]:=by rw [← hyv];show a3.tmps.getD ty _=_;exact getD_of ry
 refine wpIn_of hF.fn (by simp [hoc]) ?_
 have hargs:(#[Operand.tmp tx]:Array Operand).map a3.eval=#[v]:=by
  have e1:a3.eval (.tmp tx)=v:=by show a3.tmps.getD tx _=_;exact getD_of rx
  simp [e1]
 rw [run_callY hoc hv11,hargs]
 obtain ⟨fn',tmps',as',bd',hrun,hround⟩:=hyield (n - 1) (k0+i) _ w3 hJ3 (by omega) (hok i v v hv rfl) hk3
 rw [hrun,Oper.uponIn_round]
 refine ⟨fun e=>(by rw [hF.deep] at e;cases e),hround.mono ?_⟩
 rintro e w4 ⟨hJS,hk4⟩
 obtain ⟨b,rfl,hB⟩:∃ b,e=.returned (.bool b)∧((b=true∧J (k0+i+1) w4)∨(b=false∧S w4)):=by
  rcases hJS with ⟨rfl,h⟩ | ⟨rfl,h⟩
  ·exact ⟨true,rfl,.inl ⟨rfl,h⟩⟩
  ·exact ⟨false,rfl,.inr ⟨rfl,h⟩⟩
 dsimp only
 rw [hocd]
 have s4:St P c.nt [(tb to_,.f (.pv (.bool b)))] no (a3.put (some to_) (.bool b)) w4:=by
  have s00:St P c.nt [] no a3 w4:=⟨s3.size,fun t v e=>(by cases e),fun b v hb _ e=>(by cases e),fun b v hm e=>(by cases e),fun k k' o h=>(nomatch h),fun k o h=>(nomatch h)⟩
  exact s00.set_pure (t:=to_) hnt.2.1 ⟨rfl,.pv _ rfl⟩
 obtain ⟨logN,GN,eN,gN⟩:=kN b
 have honI:o3[pre.length+1]?=some on:=by
  rw [← Array.getElem?_toList,h3,List.getElem?_append_right (by omega)];simp
 obtain ⟨es,x1,x2,_⟩:=evOps_pre (P:=P) (c:=c) (obs:=[]) [on] (p:=pre++[oc]) (rest:=[]) (by rw [h3];simp) (by rw [List.length_append];exact eN) trivial
 have hes:[pre.length+1]=es.map (·.i)++[]:=by rw [x1,List.length_append];rfl
 rw [hes]
 refine runs_pre hc.cfg hc.ip (fun _ _ _ _ _ h=>h) hF _ es s4 x2 ?_
 intro own5 a5 w5 s5 t5 df5 c4 c3 c2 c1 c0
 have v0:a5.tmps[0]?=some yv:=(c0 rfl).trans (K2.k0.trans (KB.k0.trans y1))
 have v1:a5.tmps[t1]?=a.tmps[t1]?:=(c1 rfl).trans (K2.k1.trans (KB.k1.trans y5))
 have v2:a5.tmps[tl]?=some s:=(c2 rfl).trans (K2.k2.trans (KB.k2.trans y2))
 have v3:a5.tmps[tn]?=some (.int .i64 (vs.length:Int)):=(c3 rfl).trans (K2.k3.trans (KB.k3.trans y3))
 have v4:a5.tmps[ti]?=some (.int .i64 (i:Int)):=(c4 rfl).trans (K2.k4.trans (KB.k4.trans y4))
 have vd:a5.defers=[]:=df5.trans (df3.trans (df2.trans (dfB.trans yd)))
 have hk5:=(tr_no t5).ku hk4 hU
 refine wpIn_cond (show a5.eval (.tmp tq)=.bool (!b) from getD_of (temp_pv (t:=tq) s5 gN)) ?_
 rcases hB with ⟨rfl,hJ4⟩ | ⟨rfl,hS4⟩
 case' inr=>
  refine wpIn_ret ?_
  exact hret a5 w5 vd (hss _ _ hS4 (tr_no t5))
 have hJ5:=hst _ _ _ hJ4 (tr_no t5)
 refine wpIn_skip ?_
 obtain ⟨logD,GD,eD,gD⟩:=kD i
 refine regK hc hF eD trivial dD (base a5 w5 i s5.size v0 v2 v3 v4 hk5) ?_
 intro own6 a6 w6 s6 t6 df6 K6
 have u4:=temp_pv (t:=ti) s6 gD
 rw [wrap64 (by omega) (by omega)] at u4
 have u4':a6.tmps[ti]?=some (.int .i64 ((i+1:Nat):Int)):=by rw [u4];congr 2
 refine ⟨⟨i+1,hl,by have:=hst _ _ _ hJ5 (tr_no t6);rwa [Nat.add_assoc] at this,(tr_no t6).ku hk5 hU,s6.size,K6.k0.trans v0,K6.k2.trans v2,K6.k3.trans v3,u4',K6.k1.trans v1,df6.trans vd⟩,?_⟩
 rw [nmt u4' rfl]
 omega
end
end Go.Ev
set_option linter.unusedVariables false
set_option linter.unusedSimpArgs false
namespace Go.Ev
open Go Go.RowKit
variable {P : Program}
theorem sl_one {own:Own} {w:World} {vs:List Value} {s:Value} (h:RF own w (.sl (vs.map .pv)) s) {i:Nat} {v:Value} (hv:vs[i]?=some v):v.oneCell'=true:=by
 cases h with
 | sl _ a n c ad sz hn hc ha hsz hcell hr=>
   have hx:(vs.map FV.pv)[i]?=some (.pv v):=by rw [List.getElem?_map,hv];rfl
   obtain ⟨u,hu⟩:=hcell i _ 0 (.pv v) hx rfl
   have:=hr i _ 0 (.pv v) u hx rfl hu
   cases this;assumption
section
variable {c : Cfg} {F : Fence} {n : Nat} {Q : Exit → Act → World → Prop} {ops : Array Oper}
theorem yhead (hc:COk P c) (hF:WideF P F) {id:Nat} {tl tn ti:Tmp} {pre rest:List Oper} (hp:ops.toList=pre++rest) {yv lb s:Value} {X:FV} {vs:List Value} (hyc:yv.oneCell'=true) (ht:tl < c.nt)
 (kA:∃ log G',evOps (CallE P) c ops false pre 0 [] [(1,.f (.pv yv)),(4,.fp X 0)] []=some ([],log,G')∧get G' (tb tl)=some (.f (.pv s)))
 (kR:∃ log G',evOps (CallE P) c ops false rest pre.length [] [(tb tl,.f (.sl (vs.map .pv)))] []=some ([],log,G')∧get G' (tb tn)=some (.f (.pv (.int .i64 (vs.length:Int))))∧get G' (tb ti)=some (.f (.pv (.int .i64 0))))
 (d1:nod [0,1,1,1,1] ops.toList=true) (d2:nod [tl] rest=true)
 {own:Own} {w0:World} (hlt0:∀ k o,own k=some o→k < w0.heap.size) (hX:RC own w0 (.fp X 0) lb) (hsl:RF own w0 (.sl (vs.map .pv)) s)
 {a:Act} {W:World} (z0:a.tmps.size=c.nt) (z1:a.tmps[0]?=some yv) (z2:a.tmps[1]?=some lb) (zd:a.defers=[]) (hK:KU (fun k=>k < w0.heap.size∧(own k=none∨∃ o,own k=some (.al o))) w0 W)
 (hq:∀ a' W',a'.tmps.size=c.nt→a'.tmps[0]?=some yv→a'.tmps[1]?=some lb→a'.tmps[tl]?=some s→a'.tmps[tn]?=some (.int .i64 (vs.length:Int))→a'.tmps[ti]?=some (.int .i64 0)→a'.defers=[]→Grow W W'→KU (fun k=>k < w0.heap.size∧(own k=none∨∃ o,own k=some (.al o))) w0 W'→Q .normal a' W'):(Code.region id ops false).wpIn F n P Q a W:=by
 have hU:∀ k,(k < w0.heap.size∧(own k=none∨∃ o,own k=some (.al o)))→k < w0.heap.size:=fun k h=>h.1
 refine wpIn_region (wpOps_keep5 _ d1 ?_)
 obtain ⟨log,G',e,g⟩:=kA
 have s0:St P c.nt [(1,.f (.pv yv)),(4,.fp X 0)] no a W:=by
  refine st_temps z0 fun b v e=>?_
  simp only [get] at e
  split at e
  ·rename_i hb;cases e;exact ⟨0,yv,hb,z1,⟨rfl,.pv _ hyc⟩⟩
  ·split at e
   ·rename_i hb;cases e;exact ⟨1,lb,hb,z2,fp_no (RC.fp_mono (hK.tr hlt0) hX)⟩
   ·cases e
 refine wpOps_pre hc hF (pre:=pre) (rest:=rest) hp e trivial s0 ?_
 intro own1 a1 w1 s1 t1 df1
 have p:=temp_pv (t:=tl) s1 g
 have hk1:=(tr_no t1).ku hK hU
 have s1':St P c.nt [(tb tl,.f (.sl (vs.map .pv)))] no a1 w1:=by
  refine st_temps s1.size fun b v e=>?_
  simp only [get] at e
  split at e
  ·rename_i hb;cases e;exact ⟨tl,s,hb,p,⟨rfl,(hsl.mono (hk1.tr hlt0)).to_no⟩⟩
  ·cases e
 obtain ⟨log2,G2,e2,g2,g3⟩:=kR
 obtain ⟨es,x1,x2,_⟩:=evOps_pre (P:=P) (c:=c) (obs:=[]) rest (p:=pre) (rest:=[]) (by rw [hp];simp) e2 trivial
 refine wpOps_keep (t:=tl) _ (fun i hi o ho=>?_) ?_
 ·have hi':=List.mem_range'.1 hi
  obtain ⟨j,hj,rfl⟩:=hi'
  rw [Nat.one_mul,← Array.getElem?_toList,hp,List.getElem?_append_right (by omega),Nat.add_sub_cancel_left] at ho
  have:=List.all_eq_true.1 (List.all_eq_true.1 d2 o (List.mem_of_getElem? ho)) tl (by simp)
  simpa using this
 have hes:List.range' pre.length rest.length=es.map (·.i)++[]:=by rw [x1,List.append_nil]
 rw [hes]
 refine runs_pre hc.cfg hc.ip (fun _ _ _ _ _ h=>h) hF _ es s1' x2 ?_
 intro own2 a2 w2 s2 t2 df2 cl c4 c3 c2 c1 c0
 exact hq a2 w2 s2.size ((c0 rfl).trans z1) ((c1 rfl).trans z2) ((cl rfl).trans p) (temp_pv (t:=tn) s2 g2) (temp_pv (t:=ti) s2 g3) (df2.trans (df1.trans zd))
  ⟨Nat.le_trans (tr_no t1).size (tr_no t2).size,fun k hk=>((tr_no t2).keep k (Nat.lt_of_lt_of_le hk (tr_no t1).size)).trans ((tr_no t1).keep k hk),(tr_no t2).os.trans (tr_no t1).os,(tr_no t2).tape.trans (tr_no t1).tape,(tr_no t2).output.trans (tr_no t1).output⟩ ((tr_no t2).ku hk1 hU)
end
end Go.Ev
set_option linter.unusedVariables false
set_option linter.unusedSimpArgs false
namespace Go.Ev
open Go Go.Proofs Go.RowKit
set_option maxRecDepth 8000
set_option maxHeartbeats 8000000 in
theorem lists_it (A:api_Auto) (hl1:(A.Follow.length:Int)≤9223372036854775807) (hl2:(A.Starts.length:Int)≤9223372036854775807) :
 ItOk Try.prog 78 (.fp (enc_api_Auto A) 0) (A.Follow.length+A.Starts.length) (fun i=>[encs_i64 ((A.Follow++A.Starts).getD i [])]):=by
 intro own w0 lb hlb hone hlt0
 refine ⟨⟨_,Try.func78,by rfl,by rfl⟩,?_⟩
 intro F n lp J S W hF hro hku hst hss hyield hJ
 have kk:=cfOk [] 31
 obtain ⟨k,o,q1,q2,q3,q4⟩:=hlb
 obtain ⟨v0,e0,r0⟩:=q4 0 _ rfl
 obtain ⟨v1,e1,r1⟩:=q4 1 _ rfl
 obtain ⟨s1,e2,r2⟩:=q4 2 _ rfl
 obtain ⟨v3,e3,r3⟩:=q4 3 _ rfl
 obtain ⟨s2,e4,r4⟩:=q4 4 _ rfl
 obtain ⟨f1,hf1,hr1,hx1⟩:=exact_list (P:=Try.prog) (enc:=encs_i64) (sz:=1) (agg:=false) (fun x=>by rfl) (fun x=>by rfl) (fun _=>rfl) r2
 obtain ⟨f2,hf2,hr2,hx2⟩:=exact_list (P:=Try.prog) (enc:=encs_i64) (sz:=1) (agg:=false) (fun x=>by rfl) (fun x=>by rfl) (fun _=>rfl) r4
 obtain ⟨z1,hz1⟩:∃ z1,z1=f1.map fun f=>f 0:=⟨_,rfl⟩
 obtain ⟨z2,hz2⟩:∃ z2,z2=f2.map fun f=>f 0:=⟨_,rfl⟩
 have hm1:f1.map (encX false 1)=z1.map .pv:=by rw [hz1,List.map_map];rfl
 have hm2:f2.map (encX false 1)=z2.map .pv:=by rw [hz2,List.map_map];rfl
 rw [hm1] at hr1
 rw [hm2] at hr2
 have hn1:z1.length=A.Follow.length:=by rw [hz1,List.length_map,hf1]
 have hn2:z2.length=A.Starts.length:=by rw [hz2,List.length_map,hf2]
 have c0:v0.oneCell'=true:=rf_one r0 rfl
 have c1:v1.oneCell'=true:=rf_one r1 rfl
 have c2:s1.oneCell'=true:=rf_one r2 rfl
 have c3:v3.oneCell'=true:=rf_one r3 rfl
 have c4:s2.oneCell'=true:=rf_one r4 rfl
 have hX:RC own w0 (.fp (.agg [.pv v0,.pv v1,.pv s1,.pv v3,.pv s2]) 0) lb:=by
  refine ⟨k,o,q1,q2,q3,fun j y hy=>?_⟩
  match j,hy with
  | 0,hy=>cases hy;exact ⟨v0,e0,.pv _ c0⟩
  | 1,hy=>cases hy;exact ⟨v1,e1,.pv _ c1⟩
  | 2,hy=>cases hy;exact ⟨s1,e2,.pv _ c2⟩
  | 3,hy=>cases hy;exact ⟨v3,e3,.pv _ c3⟩
  | 4,hy=>cases hy;exact ⟨s2,e4,.pv _ c4⟩
  | j+5,hy=>cases hy
 obtain ⟨yv,hyv⟩:∃ yv,yv=Value.func (.yield lp) #[] #[]:=⟨_,rfl⟩
 rw [← hyv]
 have hyc:yv.oneCell'=true:=by rw [hyv];rfl
 have hU:∀ k,(k < w0.heap.size∧(own k=none∨∃ o,own k=some (.al o)))→k < w0.heap.size:=fun k h=>h.1
 have hval:∀ (x:List Int) (f:Nat→Value) (b:Bool),(f 0).oneCell'=true→(∀ u own' w' b,RL Try.prog [] own' w' b (asAV (encX false 1 f)) u→RF own w0 (encs_i64 x) u)→RF own w0 (encs_i64 x) (f 0):=fun x f _ h1 h2=>h2 (f 0) own w0 0 ⟨rfl,.pv _ h1⟩
 have hok:∀ (i:Nat) (v u:Value),(∃ (x:List Int) (f:Nat→Value),(A.Follow++A.Starts)[i]?=some x∧v=f 0∧RF own w0 (encs_i64 x) (f 0))→u=v→okAr own w0 (fun i=>[encs_i64 ((A.Follow++A.Starts).getD i [])]) i #[u]:=by
  rintro i v u ⟨x,f,h1,rfl,h2⟩ rfl
  refine ⟨[f 0],rfl,rfl,fun j y u e1 e2=>?_⟩
  dsimp only at e1
  rw [List.getD_eq_getElem?_getD,h1] at e1
  match j,e1,e2 with
  | 0,e1,e2=>cases e1;cases e2;exact h2
  | j+1,e1,e2=>cases e1
 have ok1:∀ (i:Nat) (v u:Value),z1[i]?=some v→u=v→okAr own w0 (fun i=>[encs_i64 ((A.Follow++A.Starts).getD i [])]) (0+i) #[u]:=by
  intro i v u hv hu
  have hone':=sl_one hr1 hv
  have hi:i < A.Follow.length:=by have:=(List.getElem?_eq_some_iff.1 hv).1;omega
  rw [hz1,List.getElem?_map] at hv
  obtain ⟨f,hf,rfl⟩:∃ f,f1[i]?=some f∧f 0=v:=by
   cases hf:f1[i]? with
   | none=>rw [hf] at hv;cases hv
   | some f=>rw [hf] at hv;exact ⟨f,rfl,by simpa using hv⟩
  refine hok (0+i) _ u ⟨A.Follow[i],f,by rw [Nat.zero_add,List.getElem?_append_left hi];simp,rfl,hval _ f true hone' (hx1 i _ f (by simp) hf)⟩ hu
 have ok2:∀ (i:Nat) (v u:Value),z2[i]?=some v→u=v→okAr own w0 (fun i=>[encs_i64 ((A.Follow++A.Starts).getD i [])]) (A.Follow.length+i) #[u]:=by
  intro i v u hv hu
  have hone':=sl_one hr2 hv
  have hi:i < A.Starts.length:=by have:=(List.getElem?_eq_some_iff.1 hv).1;omega
  rw [hz2,List.getElem?_map] at hv
  obtain ⟨f,hf,rfl⟩:∃ f,f2[i]?=some f∧f 0=v:=by
   cases hf:f2[i]? with
   | none=>rw [hf] at hv;cases hv
   | some f=>rw [hf] at hv;exact ⟨f,rfl,by simpa using hv⟩
  refine hok _ _ u ⟨A.Starts[i],f,by rw [List.getElem?_append_right (by omega),Nat.add_sub_cancel_left];simp,rfl,hval _ f true hone' (hx2 i _ f (by simp) hf)⟩ hu
 refine callsIn_of_wp_marks Try.func78 (by rfl) (hF.fn _) ?_ hro
 have hpost:∀ (a:Act) (w:World),a.defers=[]→(J (A.Follow.length+A.Starts.length) w∨S w)→LeavesInM F n Try.prog Try.f78 a.tmps (fun e W'=>(∃ v,e=.returned v)∧(J (A.Follow.length+A.Starts.length) W'∨S W')) a.defers .returning w:=by
  intro a w hd hJ
  rw [hd]
  exact ⟨.tuple #[],by simp [results,Try.f78,go_sem],⟨_,rfl⟩,hJ⟩
 obtain ⟨tm,htm⟩:∃ tm:Array Value,tm=(#[yv]++#[lb])++Array.replicate (Try.f78.ntmps - (#[yv]++#[lb]).size) undef:=⟨_,rfl⟩
 have hnt:Try.f78.ntmps=31:=by rfl
 have hs0:tm.size=(cf [] 31).nt:=by rw [htm,show (cf [] 31).nt=31 from rfl];simp [hnt]
 have ht0:tm[0]?=some yv:=by rw [htm];exact (Array.getElem?_append_left (by simp)).trans rfl
 have ht1:tm[1]?=some lb:=by rw [htm];exact (Array.getElem?_append_left (by simp)).trans rfl
 show (Code.seq (.seq (sq1 (sq1 (bodyOf Try.f78))) (sq2 (sq1 (bodyOf Try.f78)))) (.seq (sq1 (sq2 (bodyOf Try.f78))) (sq2 (sq2 (bodyOf Try.f78))))).wpIn _ _ _ _ _ _
 rw [← htm]
 refine wpIn_seq (wpIn_seq ?_)
 refine yhead (P:=Try.prog) (pre:=(opsOf (sq1 (sq1 (bodyOf Try.f78)))).take 2) (rest:=(opsOf (sq1 (sq1 (bodyOf Try.f78)))).drop 2) (tl:=8) (tn:=9) (ti:=10) (vs:=z1) (s:=s1) (X:=.agg [.pv v0,.pv v1,.pv s1,.pv v3,.pv s2]) (own:=own) (w0:=w0) kk hF (by rfl) hyc (by decide)
  ⟨[],[(1,.f (.pv yv)),(4,.fp (.agg [.pv v0,.pv v1,.pv s1,.pv v3,.pv s2]) 0),(22,.fp (.agg [.pv v0,.pv v1,.pv s1,.pv v3,.pv s2]) 2),(25,.f (.pv s1))],by kernel_rfl,by rfl⟩
  ⟨[],[(25,.f (.sl (z1.map .pv))),(28,vi ((z1.map FV.pv).length:Int)),(31,vi 0)],by kernel_rfl,by rw [List.length_map];rfl,by rfl⟩ (by rfl) (by rfl) hlt0 hX hr1 (a:={ tmps:=tm,defers:=[] }) hs0 ht0 ht1 rfl hku ?_
 intro a1 w1 y0 y1 y2 y3 y4 y5 yd yg yk
 show (sq2 (sq1 (bodyOf Try.f78))).wpIn _ _ _ _ _ _
 refine yloop (P:=Try.prog) (t1:=1) (tl:=8) (tn:=9) (ti:=10) (tc:=11) (te:=4) (ty:=14) (tx:=15) (to_:=16) (tq:=17) (yv:=yv) (s:=s1) (vs:=z1) (own:=own) (w0:=w0) (lp:=lp) (J:=J) (S:=S) (ok:=okAr own w0 (fun i=>[encs_i64 ((A.Follow++A.Starts).getD i [])])) (M:=A.Follow.length+A.Starts.length) (k0:=0)
  kk hF (by decide) (by rfl) hyc (by omega) (by rfl) (by rfl) (by rfl) (by rfl) (pre:=(opsOf (sq1 (sq2 (sq1 (sq1 (sq2 (sq2 (sq1 (sq1 (sq2 (sq1 (bodyOf Try.f78)))))))))))).take 2) (by rfl) (by rfl) (by rfl) (by rfl) (by decide)
  (fun i=>⟨[],[(1,.f (.pv yv)),(25,.f (.sl (z1.map .pv))),(28,vi z1.length),(31,vi i),(34,vB (decide ((i:Int) < (z1.length:Int))))],by kernel_rfl,by rfl⟩)
  (fun i v=>⟨[],[(1,.f (.pv yv)),(13,.f (.pv v)),(25,.f (.sl (z1.map .pv))),(28,vi z1.length),(31,vi i),(37,.fp (.pv v) 0),(40,.f (.pv v))],by kernel_rfl,by rfl⟩)
  (fun v=>⟨[],[(1,.f (.pv yv)),(13,.f (.pv v)),(43,.f (.pv yv)),(46,.f (.pv v))],by kernel_rfl,by rfl,by rfl⟩)
  (fun b=>⟨[],[(49,vB b),(52,vB (!b))],by kernel_rfl,by rfl⟩)
  (fun i=>⟨[],[(1,.f (.pv yv)),(25,.f (.sl (z1.map .pv))),(28,vi z1.length),(31,vi (w64 ((i:Int)+1))),(55,vi (w64 ((i:Int)+1)))],by kernel_rfl,by rfl⟩)
  (by decide) hlt0 hyv hst hss hyield (by omega) ok1 hr1 y0 y1 y3 y4 y5 yd (hst _ _ _ hJ yg) yk ?_ (fun a' W' h1 h2=>hpost a' W' h1 (.inr h2))
 intro a2 w2 x0 x1 x2 xd xJ xk
 show (Code.seq _ _).wpIn _ _ _ _ _ _
 refine wpIn_seq ?_
 refine yhead (P:=Try.prog) (pre:=(opsOf (sq1 (sq2 (bodyOf Try.f78)))).take 2) (rest:=(opsOf (sq1 (sq2 (bodyOf Try.f78)))).drop 2) (tl:=20) (tn:=21) (ti:=22) (vs:=z2) (s:=s2) (X:=.agg [.pv v0,.pv v1,.pv s1,.pv v3,.pv s2]) (own:=own) (w0:=w0) kk hF (by rfl) hyc (by decide)
  ⟨[],[(1,.f (.pv yv)),(4,.fp (.agg [.pv v0,.pv v1,.pv s1,.pv v3,.pv s2]) 0),(58,.fp (.agg [.pv v0,.pv v1,.pv s1,.pv v3,.pv s2]) 4),(61,.f (.pv s2))],by kernel_rfl,by rfl⟩
  ⟨[],[(61,.f (.sl (z2.map .pv))),(64,vi ((z2.map FV.pv).length:Int)),(67,vi 0)],by kernel_rfl,by rw [List.length_map];rfl,by rfl⟩ (by rfl) (by rfl) hlt0 hX hr2 x0 x1 (x2.trans y2) xd xk ?_
 intro a3 w3 u0 u1 u2 u3 u4 u5 ud ug uk
 show (sq2 (sq2 (bodyOf Try.f78))).wpIn _ _ _ _ _ _
 refine yloop (P:=Try.prog) (t1:=1) (tl:=20) (tn:=21) (ti:=22) (tc:=23) (te:=6) (ty:=26) (tx:=27) (to_:=28) (tq:=29) (yv:=yv) (s:=s2) (vs:=z2) (own:=own) (w0:=w0) (lp:=lp) (J:=J) (S:=S) (ok:=okAr own w0 (fun i=>[encs_i64 ((A.Follow++A.Starts).getD i [])])) (M:=A.Follow.length+A.Starts.length) (k0:=A.Follow.length)
  kk hF (by decide) (by rfl) hyc (by omega) (by rfl) (by rfl) (by rfl) (by rfl) (pre:=(opsOf (sq1 (sq2 (sq1 (sq1 (sq2 (sq2 (sq1 (sq1 (sq2 (sq2 (bodyOf Try.f78)))))))))))).take 2) (by rfl) (by rfl) (by rfl) (by rfl) (by decide)
  (fun i=>⟨[],[(1,.f (.pv yv)),(61,.f (.sl (z2.map .pv))),(64,vi z2.length),(67,vi i),(70,vB (decide ((i:Int) < (z2.length:Int))))],by kernel_rfl,by rfl⟩)
  (fun i v=>⟨[],[(1,.f (.pv yv)),(19,.f (.pv v)),(61,.f (.sl (z2.map .pv))),(64,vi z2.length),(67,vi i),(73,.fp (.pv v) 0),(76,.f (.pv v))],by kernel_rfl,by rfl⟩)
  (fun v=>⟨[],[(1,.f (.pv yv)),(19,.f (.pv v)),(79,.f (.pv yv)),(82,.f (.pv v))],by kernel_rfl,by rfl,by rfl⟩)
  (fun b=>⟨[],[(85,vB b),(88,vB (!b))],by kernel_rfl,by rfl⟩)
  (fun i=>⟨[],[(1,.f (.pv yv)),(61,.f (.sl (z2.map .pv))),(64,vi z2.length),(67,vi (w64 ((i:Int)+1))),(91,vi (w64 ((i:Int)+1)))],by kernel_rfl,by rfl⟩)
  (by decide) hlt0 hyv hst hss hyield (by omega) ok2 hr2 u0 u1 u3 u4 u5 ud (hst _ _ _ (by rw [Nat.zero_add,hn1] at xJ;exact xJ) ug) uk ?_ (fun a' W' h1 h2=>hpost a' W' h1 (.inr h2))
 intro a4 w4 _ _ _ xd4 xJ4 _
 exact hpost a4 w4 xd4 (.inl (by rw [hn2] at xJ4;exact xJ4))
theorem auto_lists_ok (A:api_Auto):CallE Try.prog 47 [.agg [.f (fL enc_arr4_uint64 A.Sets),.f (fL enc_i64 A.Owner),.f (fL encs_i64 A.Follow),.f (fL enc_bool A.Ends),.f (fL encs_i64 A.Starts)]] [] (.clo 78 [.fp (enc_api_Auto A) 0]) []:=by
 refine callE_semW (x:=bodyOf Try.f47) (cfOk [] 4) Try.func47 (by rfl) (by rfl) (by rfl) (Nat.le_of_ble_eq_true rfl) (by rfl) (by rfl) (Nat.le_of_ble_eq_true rfl) ?_
 refine wkS [1] [(1,.agg [.f (fL enc_arr4_uint64 A.Sets),.f (fL enc_i64 A.Owner),.f (fL encs_i64 A.Follow),.f (fL enc_bool A.Ends),.f (fL encs_i64 A.Starts)])] (by kernel_rfl) ?_
 refine sR (cfOk [] 4) [] [4,8] [(4,.ptr 8 0),(8,.agg [.f (fL enc_arr4_uint64 A.Sets),.f (fL enc_i64 A.Owner),.f (fL encs_i64 A.Follow),.f (fL enc_bool A.Ends),.f (fL encs_i64 A.Starts)])] (obs:=[]) (by kernel_rfl) (by kernel_rfl) obN ?_
 refine sR (cfOk [] 4) [] [7,8] [(7,.clo 78 [.ptr 8 0]),(8,.agg [.f (fL enc_arr4_uint64 A.Sets),.f (fL enc_i64 A.Owner),.f (fL encs_i64 A.Follow),.f (fL enc_bool A.Ends),.f (fL encs_i64 A.Starts)])] (obs:=[]) (by kernel_rfl) (by kernel_rfl) obN ?_
 refine Sem.ret' (by kernel_rfl) Wk.refl ?_
 refine ⟨_,Wk.fpz (b:=8) (x:=enc_api_Auto A) (by rfl) (by rfl) (by rfl),?_⟩
 exact (evEnd_endK (x:=.clo 78 [.fp (enc_api_Auto A) 0]) (l:=[]) (by kernel_rfl) ⟨rfl,rfl⟩).1
def C_auto_lists (A:api_Auto):Prop:=CallE Try.prog 47 [.agg [.f (fL enc_arr4_uint64 A.Sets),.f (fL enc_i64 A.Owner),.f (fL encs_i64 A.Follow),.f (fL enc_bool A.Ends),.f (fL encs_i64 A.Starts)]] [] (.clo 78 [.fp (enc_api_Auto A) 0]) []
theorem lists_it2 (A:api_Auto) (h:A.Follow.length < 1099511627776∧A.Starts.length < 1099511627776):ItOk Try.prog 78 (.fp (enc_api_Auto A) 0) (A.Follow.length+A.Starts.length) (fun i=>[encs_i64 ((A.Follow++A.Starts).getD i [])]):=
 lists_it A (by omega) (by omega)
end Go.Ev
set_option linter.unusedSimpArgs false
set_option linter.unusedVariables false
namespace Go.Ev
open Go Go.Proofs
set_option maxRecDepth 8000
def C_hecklelaw10_awake (r0:Bool):Prop:=CallE Try.prog 20 [] [] (vB r0) []
def C_hecklelaw03_Maker_Pick (a1:Int) (o0:hecklelaw03_Maker) (r0:Int) (o0':hecklelaw03_Maker):Prop:=CallE Try.prog 27 [.ptr 3 0,vi a1] [av_hecklelaw03_Maker o0] (vi r0) [av_hecklelaw03_Maker o0']
def C_heckleref01_add (a0:arr4_uint64) (a1:Int) (r0:arr4_uint64):Prop:=CallE Try.prog 97 [av_arr4_uint64 a0,vi a1] [] (av_arr4_uint64 r0) []
def C_heckleref01_Of (a0:Int) (a1:Int) (r0:arr4_uint64):Prop:=CallE Try.prog 67 [vi a0,vi a1] [] (av_arr4_uint64 r0) []
def C_heckleref01_Has (a0:arr4_uint64) (a1:Int) (r0:Bool):Prop:=CallE Try.prog 51 [av_arr4_uint64 a0,vi a1] [] (vB r0) []
def C_heckleref01_Not (a0:arr4_uint64) (r0:arr4_uint64):Prop:=CallE Try.prog 100 [av_arr4_uint64 a0] [] (av_arr4_uint64 r0) []
def C_hecklelaw03_char (a0:Int) (r0:api_Rx):Prop:=CallE Try.prog 38 [vi a0] [] (ao_api_Rx r0) []
def C_hecklelaw03_Maker_leaf (o0:hecklelaw03_Maker) (r0:api_Rx) (o0':hecklelaw03_Maker):Prop:=CallE Try.prog 71 [.ptr 3 0] [av_hecklelaw03_Maker o0] (ao_api_Rx r0) [av_hecklelaw03_Maker o0']
def C_hecklelaw03_joined (a0:Int) (a1:(List api_Rx)) (r0:api_Rx):Prop:=CallE Try.prog 72 [vi a0,vL enc_api_Rx a1] [] (ao_api_Rx r0) []
def C_hecklelaw03_Maker_Rx (a1:Int) (o0:hecklelaw03_Maker) (r0:api_Rx) (o0':hecklelaw03_Maker):Prop:=CallE Try.prog 37 [.ptr 3 0,vi a1] [av_hecklelaw03_Maker o0] (ao_api_Rx r0) [av_hecklelaw03_Maker o0']
def C_heckleref03_Size (a0:api_Rx) (r0:Int):Prop:=CallE Try.prog 26 [av_api_Rx a0] [] (vi r0) []
def C_hecklelaw06_small (o0:hecklelaw03_Maker) (r0:api_Rx) (o0':hecklelaw03_Maker):Prop:=CallE Try.prog 56 [.ptr 3 0] [av_hecklelaw03_Maker o0] (av_api_Rx r0) [av_hecklelaw03_Maker o0']
def C_hecklelaw06_rule (a1:Int) (a2:Bool) (o0:hecklelaw03_Maker) (r0:api_Rule) (o0':hecklelaw03_Maker):Prop:=CallE Try.prog 28 [.ptr 3 0,vi a1,vB a2] [av_hecklelaw03_Maker o0] (.agg [oL 3 enc_i64 (api_Rule.Conds r0),vB (api_Rule.All r0),vB (api_Rule.Bol r0),vi (api_Rx.Kind (api_Rule.Rx r0)),vI .u64 (arr4_uint64.e0 (api_Rx.Set (api_Rule.Rx r0))),vI .u64 (arr4_uint64.e1 (api_Rx.Set (api_Rule.Rx r0))),vI .u64 (arr4_uint64.e2 (api_Rx.Set (api_Rule.Rx r0))),vI .u64 (arr4_uint64.e3 (api_Rx.Set (api_Rule.Rx r0))),vi (api_Rx.Lo (api_Rule.Rx r0)),vi (api_Rx.Hi (api_Rule.Rx r0)),vL enc_api_Rx (api_Rx.Kids (api_Rule.Rx r0)),vi (api_Rx.Kind (api_Rule.Trail r0)),vI .u64 (arr4_uint64.e0 (api_Rx.Set (api_Rule.Trail r0))),vI .u64 (arr4_uint64.e1 (api_Rx.Set (api_Rule.Trail r0))),vI .u64 (arr4_uint64.e2 (api_Rx.Set (api_Rule.Trail r0))),vI .u64 (arr4_uint64.e3 (api_Rx.Set (api_Rule.Trail r0))),vi (api_Rx.Lo (api_Rule.Trail r0)),vi (api_Rx.Hi (api_Rule.Trail r0)),vL enc_api_Rx (api_Rx.Kids (api_Rule.Trail r0)),vB (api_Rule.Eof r0),vi (api_Rule.Act r0),vi (api_Rule.To r0)]) [av_hecklelaw03_Maker o0']
def C_hecklelaw06_Made (a0:(List Int)) (a1:Bool) (r0:api_Spec):Prop:=CallE Try.prog 8 [vL enc_u8 a0,vB a1] [] (.agg [vL enc_api_Cond (api_Spec.Conds r0),vB (api_Spec.Default r0),oL 38 enc_api_Rule (api_Spec.Rules r0)]) []
def C_spec_rule_holds (a0:spec_rule) (a1:Int) (r0:Bool):Prop:=CallE Try.prog 82 [av_spec_rule a0,vi a1] [] (vB r0) []
def C_spec_rule_does (a0:spec_rule) (a1:Int) (r0:Bool):Prop:=CallE Try.prog 83 [av_spec_rule a0,vi a1] [] (vB r0) []
def C_spec_none (a0:api_Rx) (r0:Bool):Prop:=CallE Try.prog 107 [av_api_Rx a0] [] (vB r0) []
def C_rx_pattern_times (a0:rx_pattern) (r0:Bool):Prop:=CallE Try.prog 110 [av_rx_pattern a0] [] (vB r0) []
def C_rx_pattern_own (a0:rx_pattern) (r0:Bool):Prop:=CallE Try.prog 89 [av_rx_pattern a0] [] (vB r0) []
def C_rx_pattern_right_L1 (a0:api_Rx) (o0:rx_pattern) (o1:Int) (r0:Bool) (o0':rx_pattern) (o1':Int):Prop:=CallE Try.prog 88 [av_api_Rx a0,.ptr 3 0,.ptr 6 0] [av_rx_pattern o0,vi o1] (vB r0) [av_rx_pattern o0',vi o1']
def C_slices_IndexFunc__api_Rx_api_Rx_at_rx_pattern_right_L1 (a0:(List api_Rx)) (o0:rx_pattern) (o1:Int) (r0:Int) (o0':rx_pattern) (o1':Int):Prop:=CallE Try.prog 111 [vL enc_api_Rx a0,.clo 88 [.ptr 3 0,.ptr 6 0]] [av_rx_pattern o0,vi o1] (vi r0) [av_rx_pattern o0',vi o1']
def C_slices_ContainsFunc__api_Rx_api_Rx_at_rx_pattern_right_L1 (a0:(List api_Rx)) (o0:rx_pattern) (o1:Int) (r0:Bool) (o0':rx_pattern) (o1':Int):Prop:=CallE Try.prog 90 [vL enc_api_Rx a0,.clo 88 [.ptr 3 0,.ptr 6 0]] [av_rx_pattern o0,vi o1] (vB r0) [av_rx_pattern o0',vi o1']
def C_rx_pattern_right (a0:rx_pattern) (a1:Int) (r0:Bool):Prop:=CallE Try.prog 57 [av_rx_pattern a0,vi a1] [] (vB r0) []
def C_rx_Size (a0:api_Rx) (r0:Int):Prop:=CallE Try.prog 58 [av_api_Rx a0] [] (vi r0) []
def C_rx_nodes (a0:api_Rx) (a1:Int) (r0:Int):Prop:=CallE Try.prog 59 [av_api_Rx a0,vi a1] [] (vi r0) []
def C_rx_Right (a0:api_Rx) (r0:Bool):Prop:=CallE Try.prog 29 [av_api_Rx a0] [] (vB r0) []
def C_spec_rule_matches (a0:spec_rule) (r0:Bool):Prop:=CallE Try.prog 84 [av_spec_rule a0] [] (vB r0) []
def C_read_Name (a0:ByteArray) (r0:Bool):Prop:=CallE Try.prog 80 [vS a0] [] (vB r0) []
def C_spec_Right_L1 (a0:api_Rule) (o0:Int) (r0:Bool) (o0':Int):Prop:=CallE Try.prog 81 [av_api_Rule a0,.ptr 3 0] [vi o0] (vB r0) [vi o0']
def C_slices_IndexFunc__api_Rule_api_Rule_at_spec_Right_L1 (a0:(List api_Rule)) (o0:Int) (r0:Int) (o0':Int):Prop:=CallE Try.prog 108 [vL enc_api_Rule a0,.clo 81 [.ptr 3 0]] [vi o0] (vi r0) [vi o0']
def C_slices_ContainsFunc__api_Rule_api_Rule_at_spec_Right_L1 (a0:(List api_Rule)) (o0:Int) (r0:Bool) (o0':Int):Prop:=CallE Try.prog 85 [vL enc_api_Rule a0,.clo 81 [.ptr 3 0]] [vi o0] (vB r0) [vi o0']
def C_spec_Right (a0:api_Spec) (r0:Bool):Prop:=CallE Try.prog 53 [av_api_Spec a0] [] (vB r0) []
def C_place_builder_place (a1:arr4_uint64) (o0:place_builder) (r0:place_piece) (o0':place_builder):Prop:=CallE Try.prog 112 [.ptr 3 0,av_arr4_uint64 a1] [ao_place_builder o0] (av_place_piece r0) [ao_place_builder o0']
def C_slices_Concat__int_int (a0:(List (List Int))) (r0:(List Int)):Prop:=CallE Try.prog 79 [vL encs_i64 a0] [] (oL 3 enc_i64 r0) []
def C_place_Join_int (a0:(List Int)) (a1:(List Int)) (r0:(List Int)):Prop:=CallE Try.prog 64 [vL enc_i64 a0,vL enc_i64 a1] [] (vL enc_i64 r0) []
def C_place_builder_lead (a1:(List Int)) (a2:(List Int)) (o0:place_builder) (o0':place_builder):Prop:=CallE Try.prog 119 [.ptr 3 0,vL enc_i64 a1,vL enc_i64 a2] [ao_place_builder o0] (.tup []) [ao_place_builder o0']
def C_place_builder_cat (a1:place_piece) (a2:place_piece) (o0:place_builder) (r0:place_piece) (o0':place_builder):Prop:=CallE Try.prog 113 [.ptr 3 0,av_place_piece a1,av_place_piece a2] [ao_place_builder o0] (av_place_piece r0) [ao_place_builder o0']
def C_place_builder_copies (a1:api_Rx) (a2:Int) (o0:place_builder) (r0:(List place_piece)) (o0':place_builder):Prop:=CallE Try.prog 120 [.ptr 3 0,av_api_Rx a1,vi a2] [ao_place_builder o0] (oL 133 enc_place_piece r0) [ao_place_builder o0']
def C_place_maybe (a0:place_piece) (r0:place_piece):Prop:=CallE Try.prog 122 [av_place_piece a0] [] (av_place_piece r0) []
def C_place_builder_rep (a1:api_Rx) (o0:place_builder) (r0:place_piece) (o0':place_builder):Prop:=CallE Try.prog 114 [.ptr 3 0,av_api_Rx a1] [ao_place_builder o0] (av_place_piece r0) [ao_place_builder o0']
def C_place_builder_piece (a1:api_Rx) (o0:place_builder) (r0:place_piece) (o0':place_builder):Prop:=CallE Try.prog 91 [.ptr 3 0,av_api_Rx a1] [ao_place_builder o0] (av_place_piece r0) [ao_place_builder o0']
def C_place_Of (a0:api_Rx) (r0:api_Places) (r1:Int):Prop:=CallE Try.prog 60 [av_api_Rx a0] [] (.tup [av_api_Places r0,vi r1]) []
def C_auto_moved (a0:(List Int)) (a1:Int) (r0:(List Int)):Prop:=CallE Try.prog 109 [vL enc_i64 a0,vi a1] [] (oL 3 enc_i64 r0) []
def C_auto_builder_put (a1:api_Rx) (a2:Int) (o0:auto_builder) (r0:(List Int)) (r1:(List Int)) (r2:Bool) (o0':auto_builder):Prop:=CallE Try.prog 86 [.ptr 3 0,av_api_Rx a1,vi a2] [ao_auto_builder o0] (.tup [vL enc_i64 r0,vL enc_i64 r1,vB r2]) [ao_auto_builder o0']
def C_auto_builder_rule (a1:api_Rule) (a2:Int) (o0:auto_builder) (r0:(List Int)) (o0':auto_builder):Prop:=CallE Try.prog 54 [.ptr 3 0,av_api_Rule a1,vi a2] [ao_auto_builder o0] (vL enc_i64 r0) [ao_auto_builder o0']
def C_slices_Index__int_int (a0:(List Int)) (a1:Int) (r0:Int):Prop:=CallE Try.prog 92 [vL enc_i64 a0,vi a1] [] (vi r0) []
def C_slices_Contains__int_int (a0:(List Int)) (a1:Int) (r0:Bool):Prop:=CallE Try.prog 63 [vL enc_i64 a0,vi a1] [] (vB r0) []
def C_spec_Active (a0:api_Spec) (a1:Int) (a2:Int) (r0:Bool):Prop:=CallE Try.prog 87 [av_api_Spec a0,vi a1,vi a2] [] (vB r0) []
def C_auto_start (a0:api_Spec) (a1:(List (List Int))) (a2:Int) (a3:Bool) (r0:(List Int)):Prop:=CallE Try.prog 55 [av_api_Spec a0,vL encs_i64 a1,vi a2,vB a3] [] (vL enc_i64 r0) []
def C_auto_Build (a0:api_Spec) (r0:api_Auto) (r1:Int):Prop:=CallE Try.prog 25 [av_api_Spec a0] [] (.tup [av_api_Auto r0,vi r1]) []
def C_auto_Right_L1 (a0:Int) (r0:Bool):Prop:=CallE Try.prog 44 [vi a0] [] (vB r0) []
def C_slices_Index__api_Set_api_Set (a0:(List arr4_uint64)) (a1:arr4_uint64) (r0:Int):Prop:=CallE Try.prog 77 [vL enc_arr4_uint64 a0,av_arr4_uint64 a1] [] (vi r0) []
def C_slices_Contains__api_Set_api_Set (a0:(List arr4_uint64)) (a1:arr4_uint64) (r0:Bool):Prop:=CallE Try.prog 46 [vL enc_arr4_uint64 a0,av_arr4_uint64 a1] [] (vB r0) []
def C_auto_places (a0:(List Int)) (a1:Int) (r0:Bool):Prop:=CallE Try.prog 48 [vL enc_i64 a0,vi a1] [] (vB r0) []
def C_slices_IndexFunc__int_int_at_auto_Right_L1 (a0:(List Int)) (r0:Int):Prop:=CallE Try.prog 76 [vL enc_i64 a0,.clo 44 []] [] (vi r0) []
def C_slices_ContainsFunc__int_int_at_auto_Right_L1 (a0:(List Int)) (r0:Bool):Prop:=CallE Try.prog 45 [vL enc_i64 a0,.clo 44 []] [] (vB r0) []
def C_auto_Right (a0:api_Auto) (r0:Bool):Prop:=CallE Try.prog 21 [av_api_Auto a0] [] (vB r0) []
def C_heckleref10_Right (a0:api_Auto) (r0:Bool):Prop:=CallE Try.prog 22 [av_api_Auto a0] [] (vB r0) []
def C_hecklelaw10_AutoEnds (a0:(List Int)) (r0:Bool):Prop:=CallE Try.prog 7 [vL enc_u8 a0] [] (vB r0) []
end Go.Ev
set_option linter.unusedSimpArgs false
set_option linter.unusedVariables false
namespace Go.Ev
open Go Go.Proofs
set_option maxRecDepth 8000
set_option maxHeartbeats 1000000 in
theorem W_hecklelaw03_Maker_Pick (n:Int) (m:hecklelaw03_Maker) (res:Int) (fin:hecklelaw03_Maker)
 (h:(((decide (w64 (hecklelaw03_Maker.At m+1) > (↑(List.length (hecklelaw03_Maker.L m)):Int)))=true→(res=0∧fin=({ L:=hecklelaw03_Maker.L m,At:=w64 (hecklelaw03_Maker.At m+1) })))∧((decide (w64 (hecklelaw03_Maker.At m+1) > (↑(List.length (hecklelaw03_Maker.L m)):Int)))=false→((0:Int)≤w64 (w64 (hecklelaw03_Maker.At m+1) - 1))∧w64 (w64 (hecklelaw03_Maker.At m+1) - 1) < ↑(List.length (hecklelaw03_Maker.L m))∧(n≠(0:Int))∧(res=(Int.tmod (w64 (gd (hecklelaw03_Maker.L m) (w64 (w64 (hecklelaw03_Maker.At m+1) - 1)))) n)∧fin=({ L:=hecklelaw03_Maker.L m,At:=w64 (hecklelaw03_Maker.At m+1) }))))):C_hecklelaw03_Maker_Pick n m res fin:=by
 unfold C_hecklelaw03_Maker_Pick
 have kk:=cfOk [] 36
 refine fD (x:=bodyOf Try.f27) kk Try.func27 ?_
 refine wkS [1,3,4] [(1,.ptr 3 0),(3,av_hecklelaw03_Maker m),(4,vi n)] (by kernel_rfl) ?_
 refine sD kk [] [] [] obN ?_
 refine sD kk [] [] [(3,.agg [vL enc_u8 (hecklelaw03_Maker.L m),vi (w64 (hecklelaw03_Maker.At m+1))])] obN ?_
 refine qD ?_
 refine sDE kk [] [] [(64,vB (decide (w64 (hecklelaw03_Maker.At m+1) > (↑(List.length (List.map enc_u8 (hecklelaw03_Maker.L m))):Int))))] [(64,vB (decide (w64 (hecklelaw03_Maker.At m+1) > (↑(List.length (hecklelaw03_Maker.L m)):Int))))] obN ?_
 refine cD (t:=21) (b:=decide (w64 (hecklelaw03_Maker.At m+1) > (↑(List.length (hecklelaw03_Maker.L m)):Int))) (fun hb0=>?_) (fun hb0=>?_)
 ·have h:=h.1 hb0
  refine sD kk [] [1,4,64] [(13,vi 0)] obN ?_
  refine tD ?_
  obtain ⟨he0,he1⟩:=h
  subst res fin
  exact (endD [] (vi 0) [.agg [vL enc_u8 (hecklelaw03_Maker.L m),vi (w64 (hecklelaw03_Maker.At m+1))]]).1
 ·have h:=h.2 hb0
  refine Sem.skip' (by kernel_rfl) Wk.refl ?_
  show Sem _ _ _ _ _
  refine wkD [64] ?_
  obtain ⟨h1,h⟩:=h
  obtain ⟨h2,h⟩:=h
  obtain ⟨h3,h⟩:=h
  refine sD kk [.e (.pv (.int .u8 (gd (hecklelaw03_Maker.L m) (w64 (w64 (hecklelaw03_Maker.At m+1) - 1)))))] [1,4] [(13,vi (Int.tmod (w64 (gd (hecklelaw03_Maker.L m) (w64 (w64 (hecklelaw03_Maker.At m+1) - 1)))) n))] (obC h1 (obC (idx_ok enc_u8 (hecklelaw03_Maker.L m) (w64 (w64 (hecklelaw03_Maker.At m+1) - 1)) _ rfl h1 h2) (obC h3 obN))) ?_
  refine tD ?_
  obtain ⟨he0,he1⟩:=h
  subst res fin
  exact (endD [] (vi (Int.tmod (w64 (gd (hecklelaw03_Maker.L m) (w64 (w64 (hecklelaw03_Maker.At m+1) - 1)))) n)) [.agg [vL enc_u8 (hecklelaw03_Maker.L m),vi (w64 (hecklelaw03_Maker.At m+1))]]).1
set_option maxHeartbeats 1000000 in
theorem W_heckleref01_add (s0:arr4_uint64) (b:Int) (res:arr4_uint64)
 (h:((w64 (Int.tdiv b (64:Int))=0∨w64 (Int.tdiv b (64:Int))=1∨w64 (Int.tdiv b (64:Int))=2∨w64 (Int.tdiv b (64:Int))=3)∧((decide (w64 (Int.tdiv b (64:Int))=(0:Int)))=true→((decide (w64 (Int.tdiv b (64:Int))=(0:Int)))=true→((0:Int)≤Int.tmod b (64:Int)))∧(res=({ e0:=IntKind.wrap IntKind.u64 (↑(BitVec.toNat (BitVec.ofInt (IntKind.bits IntKind.u64) (arr4_uint64.e0 s0) ||| BitVec.ofInt (IntKind.bits IntKind.u64) (IntKind.wrap IntKind.u64 ((1:Int) * (2:Int) ^ Min.min (Int.toNat (Int.tmod b (64:Int))) (IntKind.bits IntKind.u64))))):Int),e1:=arr4_uint64.e1 s0,e2:=arr4_uint64.e2 s0,e3:=arr4_uint64.e3 s0 })))∧((decide (w64 (Int.tdiv b (64:Int))=(1:Int)))=true→((decide (w64 (Int.tdiv b (64:Int))=(1:Int)))=true→((0:Int)≤Int.tmod b (64:Int)))∧(res=({ e0:=arr4_uint64.e0 s0,e1:=IntKind.wrap IntKind.u64 (↑(BitVec.toNat (BitVec.ofInt (IntKind.bits IntKind.u64) (arr4_uint64.e1 s0) ||| BitVec.ofInt (IntKind.bits IntKind.u64) (IntKind.wrap IntKind.u64 ((1:Int) * (2:Int) ^ Min.min (Int.toNat (Int.tmod b (64:Int))) (IntKind.bits IntKind.u64))))):Int),e2:=arr4_uint64.e2 s0,e3:=arr4_uint64.e3 s0 })))∧((decide (w64 (Int.tdiv b (64:Int))=(2:Int)))=true→((decide (w64 (Int.tdiv b (64:Int))=(2:Int)))=true→((0:Int)≤Int.tmod b (64:Int)))∧(res=({ e0:=arr4_uint64.e0 s0,e1:=arr4_uint64.e1 s0,e2:=IntKind.wrap IntKind.u64 (↑(BitVec.toNat (BitVec.ofInt (IntKind.bits IntKind.u64) (arr4_uint64.e2 s0) ||| BitVec.ofInt (IntKind.bits IntKind.u64) (IntKind.wrap IntKind.u64 ((1:Int) * (2:Int) ^ Min.min (Int.toNat (Int.tmod b (64:Int))) (IntKind.bits IntKind.u64))))):Int),e3:=arr4_uint64.e3 s0 })))∧((decide (w64 (Int.tdiv b (64:Int))=(3:Int)))=true→((decide (w64 (Int.tdiv b (64:Int))=(3:Int)))=true→((0:Int)≤Int.tmod b (64:Int)))∧(res=({ e0:=arr4_uint64.e0 s0,e1:=arr4_uint64.e1 s0,e2:=arr4_uint64.e2 s0,e3:=IntKind.wrap IntKind.u64 (↑(BitVec.toNat (BitVec.ofInt (IntKind.bits IntKind.u64) (arr4_uint64.e3 s0) ||| BitVec.ofInt (IntKind.bits IntKind.u64) (IntKind.wrap IntKind.u64 ((1:Int) * (2:Int) ^ Min.min (Int.toNat (Int.tmod b (64:Int))) (IntKind.bits IntKind.u64))))):Int) }))))):C_heckleref01_add s0 b res:=by
 unfold C_heckleref01_add
 have kk:=cfOk [16] 17
 refine fD (x:=bodyOf Try.f97) kk Try.func97 ?_
 refine wkS [1,4] [(1,av_arr4_uint64 s0),(4,vi b)] (by kernel_rfl) ?_
 refine sD kk [] [1] [(7,.ptr 14 0),(13,.ptr 26 0),(14,av_arr4_uint64 s0),(26,.agg [vI .u64 0,vI .u64 0,vI .u64 0,vI .u64 0])] obN ?_
 obtain ⟨hor,h⟩:=h
 rcases hor with hb0 | hb0 | hb0 | hb0
 ·have hb0:=decide_eq_true hb0
  have h:=h.1 hb0
  obtain ⟨h1,h⟩:=h
  refine sD kk [.n 0,.n 0] [4] [(14,.agg [vI .u64 (IntKind.wrap IntKind.u64 (↑(BitVec.toNat (BitVec.ofInt (IntKind.bits IntKind.u64) (arr4_uint64.e0 s0) ||| BitVec.ofInt (IntKind.bits IntKind.u64) (IntKind.wrap IntKind.u64 ((1:Int) * (2:Int) ^ Min.min (Int.toNat (Int.tmod b (64:Int))) (IntKind.bits IntKind.u64))))):Int)),vI .u64 (arr4_uint64.e1 s0),vI .u64 (arr4_uint64.e2 s0),vI .u64 (arr4_uint64.e3 s0)])] (obC (show (64:Int)≠(0:Int) from by first | decide | rfl | trivial) (obC (show (64:Int)≠(0:Int) from by first | decide | rfl | trivial) (obC (of_decide_eq_true hb0) (obC (show (64:Int)≠(0:Int) from by first | decide | rfl | trivial) (obC (h1 hb0) (obC (of_decide_eq_true hb0) obN)))))) ?_
  refine sD kk [] [7,14] [(26,.agg [vI .u64 (IntKind.wrap IntKind.u64 (↑(BitVec.toNat (BitVec.ofInt (IntKind.bits IntKind.u64) (arr4_uint64.e0 s0) ||| BitVec.ofInt (IntKind.bits IntKind.u64) (IntKind.wrap IntKind.u64 ((1:Int) * (2:Int) ^ Min.min (Int.toNat (Int.tmod b (64:Int))) (IntKind.bits IntKind.u64))))):Int)),vI .u64 (arr4_uint64.e1 s0),vI .u64 (arr4_uint64.e2 s0),vI .u64 (arr4_uint64.e3 s0)])] obN ?_
  refine tD ?_
  obtain he0:=h
  subst res
  exact (endD [] (.agg [vI .u64 (IntKind.wrap IntKind.u64 (↑(BitVec.toNat (BitVec.ofInt (IntKind.bits IntKind.u64) (arr4_uint64.e0 s0) ||| BitVec.ofInt (IntKind.bits IntKind.u64) (IntKind.wrap IntKind.u64 ((1:Int) * (2:Int) ^ Min.min (Int.toNat (Int.tmod b (64:Int))) (IntKind.bits IntKind.u64))))):Int)),vI .u64 (arr4_uint64.e1 s0),vI .u64 (arr4_uint64.e2 s0),vI .u64 (arr4_uint64.e3 s0)]) []).1
 ·have hb0:=decide_eq_true hb0
  have h:=h.2.1 hb0
  obtain ⟨h2,h⟩:=h
  refine sD kk [.n 1,.n 1] [4] [(14,.agg [vI .u64 (arr4_uint64.e0 s0),vI .u64 (IntKind.wrap IntKind.u64 (↑(BitVec.toNat (BitVec.ofInt (IntKind.bits IntKind.u64) (arr4_uint64.e1 s0) ||| BitVec.ofInt (IntKind.bits IntKind.u64) (IntKind.wrap IntKind.u64 ((1:Int) * (2:Int) ^ Min.min (Int.toNat (Int.tmod b (64:Int))) (IntKind.bits IntKind.u64))))):Int)),vI .u64 (arr4_uint64.e2 s0),vI .u64 (arr4_uint64.e3 s0)])] (obC (show (64:Int)≠(0:Int) from by first | decide | rfl | trivial) (obC (show (64:Int)≠(0:Int) from by first | decide | rfl | trivial) (obC (of_decide_eq_true hb0) (obC (show (64:Int)≠(0:Int) from by first | decide | rfl | trivial) (obC (h2 hb0) (obC (of_decide_eq_true hb0) obN)))))) ?_
  refine sD kk [] [7,14] [(26,.agg [vI .u64 (arr4_uint64.e0 s0),vI .u64 (IntKind.wrap IntKind.u64 (↑(BitVec.toNat (BitVec.ofInt (IntKind.bits IntKind.u64) (arr4_uint64.e1 s0) ||| BitVec.ofInt (IntKind.bits IntKind.u64) (IntKind.wrap IntKind.u64 ((1:Int) * (2:Int) ^ Min.min (Int.toNat (Int.tmod b (64:Int))) (IntKind.bits IntKind.u64))))):Int)),vI .u64 (arr4_uint64.e2 s0),vI .u64 (arr4_uint64.e3 s0)])] obN ?_
  refine tD ?_
  obtain he0:=h
  subst res
  exact (endD [] (.agg [vI .u64 (arr4_uint64.e0 s0),vI .u64 (IntKind.wrap IntKind.u64 (↑(BitVec.toNat (BitVec.ofInt (IntKind.bits IntKind.u64) (arr4_uint64.e1 s0) ||| BitVec.ofInt (IntKind.bits IntKind.u64) (IntKind.wrap IntKind.u64 ((1:Int) * (2:Int) ^ Min.min (Int.toNat (Int.tmod b (64:Int))) (IntKind.bits IntKind.u64))))):Int)),vI .u64 (arr4_uint64.e2 s0),vI .u64 (arr4_uint64.e3 s0)]) []).1
 ·have hb0:=decide_eq_true hb0
  have h:=h.2.2.1 hb0
  obtain ⟨h3,h⟩:=h
  refine sD kk [.n 2,.n 2] [4] [(14,.agg [vI .u64 (arr4_uint64.e0 s0),vI .u64 (arr4_uint64.e1 s0),vI .u64 (IntKind.wrap IntKind.u64 (↑(BitVec.toNat (BitVec.ofInt (IntKind.bits IntKind.u64) (arr4_uint64.e2 s0) ||| BitVec.ofInt (IntKind.bits IntKind.u64) (IntKind.wrap IntKind.u64 ((1:Int) * (2:Int) ^ Min.min (Int.toNat (Int.tmod b (64:Int))) (IntKind.bits IntKind.u64))))):Int)),vI .u64 (arr4_uint64.e3 s0)])] (obC (show (64:Int)≠(0:Int) from by first | decide | rfl | trivial) (obC (show (64:Int)≠(0:Int) from by first | decide | rfl | trivial) (obC (of_decide_eq_true hb0) (obC (show (64:Int)≠(0:Int) from by first | decide | rfl | trivial) (obC (h3 hb0) (obC (of_decide_eq_true hb0) obN)))))) ?_
  refine sD kk [] [7,14] [(26,.agg [vI .u64 (arr4_uint64.e0 s0),vI .u64 (arr4_uint64.e1 s0),vI .u64 (IntKind.wrap IntKind.u64 (↑(BitVec.toNat (BitVec.ofInt (IntKind.bits IntKind.u64) (arr4_uint64.e2 s0) ||| BitVec.ofInt (IntKind.bits IntKind.u64) (IntKind.wrap IntKind.u64 ((1:Int) * (2:Int) ^ Min.min (Int.toNat (Int.tmod b (64:Int))) (IntKind.bits IntKind.u64))))):Int)),vI .u64 (arr4_uint64.e3 s0)])] obN ?_
  refine tD ?_
  obtain he0:=h
  subst res
  exact (endD [] (.agg [vI .u64 (arr4_uint64.e0 s0),vI .u64 (arr4_uint64.e1 s0),vI .u64 (IntKind.wrap IntKind.u64 (↑(BitVec.toNat (BitVec.ofInt (IntKind.bits IntKind.u64) (arr4_uint64.e2 s0) ||| BitVec.ofInt (IntKind.bits IntKind.u64) (IntKind.wrap IntKind.u64 ((1:Int) * (2:Int) ^ Min.min (Int.toNat (Int.tmod b (64:Int))) (IntKind.bits IntKind.u64))))):Int)),vI .u64 (arr4_uint64.e3 s0)]) []).1
 ·have hb0:=decide_eq_true hb0
  have h:=h.2.2.2 hb0
  obtain ⟨h4,h⟩:=h
  refine sD kk [.n 3,.n 3] [4] [(14,.agg [vI .u64 (arr4_uint64.e0 s0),vI .u64 (arr4_uint64.e1 s0),vI .u64 (arr4_uint64.e2 s0),vI .u64 (IntKind.wrap IntKind.u64 (↑(BitVec.toNat (BitVec.ofInt (IntKind.bits IntKind.u64) (arr4_uint64.e3 s0) ||| BitVec.ofInt (IntKind.bits IntKind.u64) (IntKind.wrap IntKind.u64 ((1:Int) * (2:Int) ^ Min.min (Int.toNat (Int.tmod b (64:Int))) (IntKind.bits IntKind.u64))))):Int))])] (obC (show (64:Int)≠(0:Int) from by first | decide | rfl | trivial) (obC (show (64:Int)≠(0:Int) from by first | decide | rfl | trivial) (obC (of_decide_eq_true hb0) (obC (show (64:Int)≠(0:Int) from by first | decide | rfl | trivial) (obC (h4 hb0) (obC (of_decide_eq_true hb0) obN)))))) ?_
  refine sD kk [] [7,14] [(26,.agg [vI .u64 (arr4_uint64.e0 s0),vI .u64 (arr4_uint64.e1 s0),vI .u64 (arr4_uint64.e2 s0),vI .u64 (IntKind.wrap IntKind.u64 (↑(BitVec.toNat (BitVec.ofInt (IntKind.bits IntKind.u64) (arr4_uint64.e3 s0) ||| BitVec.ofInt (IntKind.bits IntKind.u64) (IntKind.wrap IntKind.u64 ((1:Int) * (2:Int) ^ Min.min (Int.toNat (Int.tmod b (64:Int))) (IntKind.bits IntKind.u64))))):Int))])] obN ?_
  refine tD ?_
  obtain he0:=h
  subst res
  exact (endD [] (.agg [vI .u64 (arr4_uint64.e0 s0),vI .u64 (arr4_uint64.e1 s0),vI .u64 (arr4_uint64.e2 s0),vI .u64 (IntKind.wrap IntKind.u64 (↑(BitVec.toNat (BitVec.ofInt (IntKind.bits IntKind.u64) (arr4_uint64.e3 s0) ||| BitVec.ofInt (IntKind.bits IntKind.u64) (IntKind.wrap IntKind.u64 ((1:Int) * (2:Int) ^ Min.min (Int.toNat (Int.tmod b (64:Int))) (IntKind.bits IntKind.u64))))):Int))]) []).1
set_option maxHeartbeats 1000000 in
theorem W_heckleref01_Of (from0:Int) (to0:Int) (res:arr4_uint64)
 (h:(∃ (Inv16:Int→Int→Int→Int→Int→Prop) (mu17:Int→Int→Int→Int→Int→Nat),Inv16 0 0 0 0 0∧(∀ (s_e0_1:Int) (s_e1_1:Int) (s_e2_1:Int) (s_e3_1:Int) (b:Int),Inv16 s_e0_1 s_e1_1 s_e2_1 s_e3_1 b→(((decide (b < (256:Int)))=true→(∃ J22:Int→Int→Int→Int→Prop,(∀ (s_e0_3:Int) (s_e1_3:Int) (s_e2_3:Int) (s_e3_3:Int),J22 s_e0_3 s_e1_3 s_e2_3 s_e3_3→(Inv16 s_e0_3 s_e1_3 s_e2_3 s_e3_3 (w64 (b+1))∧mu17 s_e0_3 s_e1_3 s_e2_3 s_e3_3 (w64 (b+1)) < mu17 s_e0_1 s_e1_1 s_e2_1 s_e3_1 b))∧(((decide (b≥from0) && decide (b≤to0))=true→(∃ r0_5:arr4_uint64,C_heckleref01_add ({ e0:=s_e0_1,e1:=s_e1_1,e2:=s_e2_1,e3:=s_e3_1 }) b r0_5∧J22 (arr4_uint64.e0 r0_5) (arr4_uint64.e1 r0_5) (arr4_uint64.e2 r0_5) (arr4_uint64.e3 r0_5)))∧((decide (b≥from0) && decide (b≤to0))=false→J22 s_e0_1 s_e1_1 s_e2_1 s_e3_1))))∧((decide (b < (256:Int)))=false→(res=({ e0:=s_e0_1,e1:=s_e1_1,e2:=s_e2_1,e3:=s_e3_1 }))))))):C_heckleref01_Of from0 to0 res:=by
 unfold C_heckleref01_Of
 have kk:=cfOk [22] 23
 refine fD (x:=bodyOf Try.f67) kk Try.func67 ?_
 refine wkS [1,4] [(1,vi from0),(4,vi to0)] (by kernel_rfl) ?_
 refine sD kk [] [] [(13,.ptr 26 0),(26,.agg [vI .u64 0,vI .u64 0,vI .u64 0,vI .u64 0])] obN ?_
 refine sD kk [] [] [(16,.ptr 32 0),(32,.agg [vI .u64 0,vI .u64 0,vI .u64 0,vI .u64 0])] obN ?_
 refine qD ?_
 refine sD kk [] [] [(19,vi 0)] obN ?_
 refine bD (id:=0) ?_
 obtain ⟨Inv16,mu17,h0Inv16,hInv16⟩:=h
 refine loD (fun (q:Int×Int×Int×Int×Int)=>(fun (s_e0_1:Int) (s_e1_1:Int) (s_e2_1:Int) (s_e3_1:Int) (b:Int)=>([(1,vi from0),(4,vi to0),(13,.ptr 26 0),(16,.ptr 32 0),(19,vi b),(26,.agg [vI .u64 0,vI .u64 0,vI .u64 0,vI .u64 0]),(32,.agg [vI .u64 s_e0_1,vI .u64 s_e1_1,vI .u64 s_e2_1,vI .u64 s_e3_1])]:Sta)) q.1 q.2.1 q.2.2.1 q.2.2.2.1 q.2.2.2.2) (fun (q:Int×Int×Int×Int×Int)=>Inv16 q.1 q.2.1 q.2.2.1 q.2.2.2.1 q.2.2.2.2) (fun (q:Int×Int×Int×Int×Int)=>mu17 q.1 q.2.1 q.2.2.1 q.2.2.2.1 q.2.2.2.2) (0,0,0,0,0) [] h0Inv16 ?_
 rintro ⟨s_e0_1,s_e1_1,s_e2_1,s_e3_1,b⟩ hi
 have h:=hInv16 s_e0_1 s_e1_1 s_e2_1 s_e3_1 b hi
 refine qD ?_
 refine sD kk [] [] [(25,vB (decide (b < (256:Int))))] obN ?_
 refine cD (t:=8) (b:=decide (b < (256:Int))) (fun hb18=>?_) (fun hb18=>?_)
 ·have h:=h.1 hb18
  refine Sem.skip' (by kernel_rfl) Wk.refl ?_
  show Sem _ _ _ _ _
  refine wkD [25] ?_
  obtain ⟨J22,hJ22,h⟩:=h
  refine sjD (fun (q:Int×Int×Int×Int)=>J22 q.1 q.2.1 q.2.2.1 q.2.2.2) (fun (q:Int×Int×Int×Int)=>(fun (s_e0_3:Int) (s_e1_3:Int) (s_e2_3:Int) (s_e3_3:Int)=>([(1,vi from0),(4,vi to0),(13,.ptr 26 0),(16,.ptr 32 0),(19,vi b),(26,.agg [vI .u64 0,vI .u64 0,vI .u64 0,vI .u64 0]),(32,.agg [vI .u64 s_e0_3,vI .u64 s_e1_3,vI .u64 s_e2_3,vI .u64 s_e3_3])]:Sta)) q.1 q.2.1 q.2.2.1 q.2.2.2) ?_ ?_
  ·rintro ⟨s_e0_3,s_e1_3,s_e2_3,s_e3_3⟩ hj
   have h:=hJ22 s_e0_3 s_e1_3 s_e2_3 s_e3_3 hj
   refine rD kk [] [] [(19,vi (w64 (b+1)))] obN ?_
   exact lD (s_e0_3,s_e1_3,s_e2_3,s_e3_3,(w64 (b+1))) [] h
  ·refine bD (id:=1) ?_
   refine sM [] [(55,vB (decide (b≥from0) && decide (b≤to0)))] ?_ (fun hk0=>?_)
   ·refine cD (t:=18) (b:=decide (b≥from0) && decide (b≤to0)) (fun hb24=>?_) (fun hb24=>?_)
    ·have h:=h.1 hb24
     obtain ⟨r0_5,hc25,h⟩:=h
     refine rD kk [.c (av_arr4_uint64 r0_5) []] [55] [(32,av_arr4_uint64 r0_5)] (obC hc25 obN) ?_
     exact jD ((arr4_uint64.e0 r0_5),(arr4_uint64.e1 r0_5),(arr4_uint64.e2 r0_5),(arr4_uint64.e3 r0_5)) [] h
    ·have h:=h.2 hb24
     refine Sem.skip' (by kernel_rfl) Wk.refl ?_
     exact jD (s_e0_1,s_e1_1,s_e2_1,s_e3_1) [] h
   ·rcases Bool.eq_false_or_eq_true (decide (b≥from0)) with hb23 | hb23
    ·refine sD kk [bT,bT,bT,bT] [] [(55,vB (decide (b≤to0)))] (obC (gtt hb23) (obC (gtt hb23) (obC (gtt hb23) (obC hb23 obN)))) ?_
     exact Sem.cast (by try rw [hb23];kernel_rfl) hk0
    ·refine sD kk [bF,bF,bF,bF] [] [(55,vB false)] (obC (gtf hb23) (obC (gtf hb23) (obC (gtf hb23) (obC hb23 obN)))) ?_
     exact Sem.cast (by try rw [hb23];kernel_rfl) hk0
 ·have h:=h.2 hb18
  refine xD (i:=0) ?_
  show Sem _ _ _ _ _
  refine wkD [1,4,19,25] ?_
  refine sD kk [] [16,32] [(26,.agg [vI .u64 s_e0_1,vI .u64 s_e1_1,vI .u64 s_e2_1,vI .u64 s_e3_1])] obN ?_
  refine tD ?_
  obtain he0:=h
  subst res
  exact (endD [] (.agg [vI .u64 s_e0_1,vI .u64 s_e1_1,vI .u64 s_e2_1,vI .u64 s_e3_1]) []).1
set_option maxHeartbeats 1000000 in
theorem W_heckleref01_Has (s0:arr4_uint64) (b:Int) (res:Bool)
 (h:(((decide (b≥(0:Int)))=true→(((decide (b < (256:Int)))=true→((w64 (Int.tdiv b (64:Int))=0∨w64 (Int.tdiv b (64:Int))=1∨w64 (Int.tdiv b (64:Int))=2∨w64 (Int.tdiv b (64:Int))=3)∧((decide (w64 (Int.tdiv b (64:Int))=(0:Int)))=true→((decide (b≥(0:Int)))=true→((decide (b < (256:Int)))=true→((decide (w64 (Int.tdiv b (64:Int))=(0:Int)))=true→((0:Int)≤Int.tmod b (64:Int)))))∧(res=(IntKind.wrap IntKind.u64 (↑(BitVec.toNat (BitVec.ofInt (IntKind.bits IntKind.u64) (Int.fdiv (arr4_uint64.e0 s0) ((2:Int) ^ Min.min (Int.toNat (Int.tmod b (64:Int))) (IntKind.bits IntKind.u64))) &&& BitVec.ofInt (IntKind.bits IntKind.u64) (1:Int))):Int) == 1)))∧((decide (w64 (Int.tdiv b (64:Int))=(1:Int)))=true→((decide (b≥(0:Int)))=true→((decide (b < (256:Int)))=true→((decide (w64 (Int.tdiv b (64:Int))=(1:Int)))=true→((0:Int)≤Int.tmod b (64:Int)))))∧(res=(IntKind.wrap IntKind.u64 (↑(BitVec.toNat (BitVec.ofInt (IntKind.bits IntKind.u64) (Int.fdiv (arr4_uint64.e1 s0) ((2:Int) ^ Min.min (Int.toNat (Int.tmod b (64:Int))) (IntKind.bits IntKind.u64))) &&& BitVec.ofInt (IntKind.bits IntKind.u64) (1:Int))):Int) == 1)))∧((decide (w64 (Int.tdiv b (64:Int))=(2:Int)))=true→((decide (b≥(0:Int)))=true→((decide (b < (256:Int)))=true→((decide (w64 (Int.tdiv b (64:Int))=(2:Int)))=true→((0:Int)≤Int.tmod b (64:Int)))))∧(res=(IntKind.wrap IntKind.u64 (↑(BitVec.toNat (BitVec.ofInt (IntKind.bits IntKind.u64) (Int.fdiv (arr4_uint64.e2 s0) ((2:Int) ^ Min.min (Int.toNat (Int.tmod b (64:Int))) (IntKind.bits IntKind.u64))) &&& BitVec.ofInt (IntKind.bits IntKind.u64) (1:Int))):Int) == 1)))∧((decide (w64 (Int.tdiv b (64:Int))=(3:Int)))=true→((decide (b≥(0:Int)))=true→((decide (b < (256:Int)))=true→((decide (w64 (Int.tdiv b (64:Int))=(3:Int)))=true→((0:Int)≤Int.tmod b (64:Int)))))∧(res=(IntKind.wrap IntKind.u64 (↑(BitVec.toNat (BitVec.ofInt (IntKind.bits IntKind.u64) (Int.fdiv (arr4_uint64.e3 s0) ((2:Int) ^ Min.min (Int.toNat (Int.tmod b (64:Int))) (IntKind.bits IntKind.u64))) &&& BitVec.ofInt (IntKind.bits IntKind.u64) (1:Int))):Int) == 1)))))∧((decide (b < (256:Int)))=false→(res=false))))∧((decide (b≥(0:Int)))=false→(res=false)))):C_heckleref01_Has s0 b res:=by
 unfold C_heckleref01_Has
 have kk:=cfOk [] 22
 refine fD (x:=bodyOf Try.f51) kk Try.func51 ?_
 refine wkS [1,4] [(1,av_arr4_uint64 s0),(4,vi b)] (by kernel_rfl) ?_
 refine sD kk [] [1] [(7,.ptr 14 0),(14,av_arr4_uint64 s0)] obN ?_
 rcases Bool.eq_false_or_eq_true (decide (b≥(0:Int))) with hb0 | hb0
 ·have h:=h.1 hb0
  rcases Bool.eq_false_or_eq_true (decide (b < (256:Int))) with hb1 | hb1
  ·have h:=h.1 hb1
   obtain ⟨hor,h⟩:=h
   rcases hor with hb2 | hb2 | hb2 | hb2
   ·have hb2:=decide_eq_true hb2
    have h:=h.1 hb2
    obtain ⟨h3,h⟩:=h
    refine sD kk [bT,bT,bT,bT,bT,bT,.n 0,bT,bT,bT,bT,bT,bT,bT] [4,7,14] [(13,vB (IntKind.wrap IntKind.u64 (↑(BitVec.toNat (BitVec.ofInt (IntKind.bits IntKind.u64) (Int.fdiv (arr4_uint64.e0 s0) ((2:Int) ^ Min.min (Int.toNat (Int.tmod b (64:Int))) (IntKind.bits IntKind.u64))) &&& BitVec.ofInt (IntKind.bits IntKind.u64) (1:Int))):Int) == 1))] (obC (gtt hb0) (obC (gtt hb0) (obC hb0 (obC (gtt hb1) (obC (gtt hb1) (obC (show (64:Int)≠(0:Int) from by first | decide | rfl | trivial) (obC (gtt hb1) (obC (of_decide_eq_true hb2) (obC (gtt hb1) (obC (gtt hb1) (obC (gtt hb1) (obC (show (64:Int)≠(0:Int) from by first | decide | rfl | trivial) (obC (gtt hb1) (obC (((h3 hb0) hb1) hb2) (obC (gtt hb1) (obC (gtt hb1) (obC hb1 obN))))))))))))))))) ?_
    refine tD ?_
    obtain he0:=h
    subst res
    exact (endD [] (vB (IntKind.wrap IntKind.u64 (↑(BitVec.toNat (BitVec.ofInt (IntKind.bits IntKind.u64) (Int.fdiv (arr4_uint64.e0 s0) ((2:Int) ^ Min.min (Int.toNat (Int.tmod b (64:Int))) (IntKind.bits IntKind.u64))) &&& BitVec.ofInt (IntKind.bits IntKind.u64) (1:Int))):Int) == 1)) []).1
   ·have hb2:=decide_eq_true hb2
    have h:=h.2.1 hb2
    obtain ⟨h4,h⟩:=h
    refine sD kk [bT,bT,bT,bT,bT,bT,.n 1,bT,bT,bT,bT,bT,bT,bT] [4,7,14] [(13,vB (IntKind.wrap IntKind.u64 (↑(BitVec.toNat (BitVec.ofInt (IntKind.bits IntKind.u64) (Int.fdiv (arr4_uint64.e1 s0) ((2:Int) ^ Min.min (Int.toNat (Int.tmod b (64:Int))) (IntKind.bits IntKind.u64))) &&& BitVec.ofInt (IntKind.bits IntKind.u64) (1:Int))):Int) == 1))] (obC (gtt hb0) (obC (gtt hb0) (obC hb0 (obC (gtt hb1) (obC (gtt hb1) (obC (show (64:Int)≠(0:Int) from by first | decide | rfl | trivial) (obC (gtt hb1) (obC (of_decide_eq_true hb2) (obC (gtt hb1) (obC (gtt hb1) (obC (gtt hb1) (obC (show (64:Int)≠(0:Int) from by first | decide | rfl | trivial) (obC (gtt hb1) (obC (((h4 hb0) hb1) hb2) (obC (gtt hb1) (obC (gtt hb1) (obC hb1 obN))))))))))))))))) ?_
    refine tD ?_
    obtain he0:=h
    subst res
    exact (endD [] (vB (IntKind.wrap IntKind.u64 (↑(BitVec.toNat (BitVec.ofInt (IntKind.bits IntKind.u64) (Int.fdiv (arr4_uint64.e1 s0) ((2:Int) ^ Min.min (Int.toNat (Int.tmod b (64:Int))) (IntKind.bits IntKind.u64))) &&& BitVec.ofInt (IntKind.bits IntKind.u64) (1:Int))):Int) == 1)) []).1
   ·have hb2:=decide_eq_true hb2
    have h:=h.2.2.1 hb2
    obtain ⟨h5,h⟩:=h
    refine sD kk [bT,bT,bT,bT,bT,bT,.n 2,bT,bT,bT,bT,bT,bT,bT] [4,7,14] [(13,vB (IntKind.wrap IntKind.u64 (↑(BitVec.toNat (BitVec.ofInt (IntKind.bits IntKind.u64) (Int.fdiv (arr4_uint64.e2 s0) ((2:Int) ^ Min.min (Int.toNat (Int.tmod b (64:Int))) (IntKind.bits IntKind.u64))) &&& BitVec.ofInt (IntKind.bits IntKind.u64) (1:Int))):Int) == 1))] (obC (gtt hb0) (obC (gtt hb0) (obC hb0 (obC (gtt hb1) (obC (gtt hb1) (obC (show (64:Int)≠(0:Int) from by first | decide | rfl | trivial) (obC (gtt hb1) (obC (of_decide_eq_true hb2) (obC (gtt hb1) (obC (gtt hb1) (obC (gtt hb1) (obC (show (64:Int)≠(0:Int) from by first | decide | rfl | trivial) (obC (gtt hb1) (obC (((h5 hb0) hb1) hb2) (obC (gtt hb1) (obC (gtt hb1) (obC hb1 obN))))))))))))))))) ?_
    refine tD ?_
    obtain he0:=h
    subst res
    exact (endD [] (vB (IntKind.wrap IntKind.u64 (↑(BitVec.toNat (BitVec.ofInt (IntKind.bits IntKind.u64) (Int.fdiv (arr4_uint64.e2 s0) ((2:Int) ^ Min.min (Int.toNat (Int.tmod b (64:Int))) (IntKind.bits IntKind.u64))) &&& BitVec.ofInt (IntKind.bits IntKind.u64) (1:Int))):Int) == 1)) []).1
   ·have hb2:=decide_eq_true hb2
    have h:=h.2.2.2 hb2
    obtain ⟨h6,h⟩:=h
    refine sD kk [bT,bT,bT,bT,bT,bT,.n 3,bT,bT,bT,bT,bT,bT,bT] [4,7,14] [(13,vB (IntKind.wrap IntKind.u64 (↑(BitVec.toNat (BitVec.ofInt (IntKind.bits IntKind.u64) (Int.fdiv (arr4_uint64.e3 s0) ((2:Int) ^ Min.min (Int.toNat (Int.tmod b (64:Int))) (IntKind.bits IntKind.u64))) &&& BitVec.ofInt (IntKind.bits IntKind.u64) (1:Int))):Int) == 1))] (obC (gtt hb0) (obC (gtt hb0) (obC hb0 (obC (gtt hb1) (obC (gtt hb1) (obC (show (64:Int)≠(0:Int) from by first | decide | rfl | trivial) (obC (gtt hb1) (obC (of_decide_eq_true hb2) (obC (gtt hb1) (obC (gtt hb1) (obC (gtt hb1) (obC (show (64:Int)≠(0:Int) from by first | decide | rfl | trivial) (obC (gtt hb1) (obC (((h6 hb0) hb1) hb2) (obC (gtt hb1) (obC (gtt hb1) (obC hb1 obN))))))))))))))))) ?_
    refine tD ?_
    obtain he0:=h
    subst res
    exact (endD [] (vB (IntKind.wrap IntKind.u64 (↑(BitVec.toNat (BitVec.ofInt (IntKind.bits IntKind.u64) (Int.fdiv (arr4_uint64.e3 s0) ((2:Int) ^ Min.min (Int.toNat (Int.tmod b (64:Int))) (IntKind.bits IntKind.u64))) &&& BitVec.ofInt (IntKind.bits IntKind.u64) (1:Int))):Int) == 1)) []).1
  ·have h:=h.2 hb1
   refine sD kk [bT,bT,bT,bF,bF,bF,bF,bF,bF,bF,bF,bF,bF] [4,7,14] [(13,vB false)] (obC (gtt hb0) (obC (gtt hb0) (obC hb0 (obC (gtf hb1) (obC (gtf hb1) (obC (gtf hb1) (obC (gtf hb1) (obC (gtf hb1) (obC (gtf hb1) (obC (gtf hb1) (obC (gtf hb1) (obC (gtf hb1) (obC hb1 obN))))))))))))) ?_
   refine tD ?_
   obtain he0:=h
   subst res
   exact (endD [] (vB false) []).1
 ·have h:=h.2 hb0
  refine sD kk [bF,bF,bF,bF,bF,bF,bF,bF,bF,bF,bF,bF,bF] [4,7,14] [(13,vB false)] (obC (gtf hb0) (obC (gtf hb0) (obC hb0 (oF (oF (oF (oF (oF (oF (oF (oF (oF (oF obN))))))))))))) ?_
  refine tD ?_
  obtain he0:=h
  subst res
  exact (endD [] (vB false) []).1
set_option maxHeartbeats 1000000 in
theorem W_heckleref01_Not (a:arr4_uint64) (res:arr4_uint64)
 (h:(∃ (Inv16:Int→Int→Int→Int→Int→Prop) (mu17:Int→Int→Int→Int→Int→Nat),Inv16 0 0 0 0 0∧(∀ (s_e0_1:Int) (s_e1_1:Int) (s_e2_1:Int) (s_e3_1:Int) (i:Int),Inv16 s_e0_1 s_e1_1 s_e2_1 s_e3_1 i→(((decide (i < (256:Int)))=true→(∃ J22:Int→Int→Int→Int→Prop,(∀ (s_e0_3:Int) (s_e1_3:Int) (s_e2_3:Int) (s_e3_3:Int),J22 s_e0_3 s_e1_3 s_e2_3 s_e3_3→(Inv16 s_e0_3 s_e1_3 s_e2_3 s_e3_3 (w64 (i+1))∧mu17 s_e0_3 s_e1_3 s_e2_3 s_e3_3 (w64 (i+1)) < mu17 s_e0_1 s_e1_1 s_e2_1 s_e3_1 i))∧(∃ r0_10:Bool,C_heckleref01_Has a i r0_10∧(((!r0_10)=true→(∃ r0_11:arr4_uint64,C_heckleref01_add ({ e0:=s_e0_1,e1:=s_e1_1,e2:=s_e2_1,e3:=s_e3_1 }) i r0_11∧J22 (arr4_uint64.e0 r0_11) (arr4_uint64.e1 r0_11) (arr4_uint64.e2 r0_11) (arr4_uint64.e3 r0_11)))∧((!r0_10)=false→J22 s_e0_1 s_e1_1 s_e2_1 s_e3_1)))))∧((decide (i < (256:Int)))=false→(res=({ e0:=s_e0_1,e1:=s_e1_1,e2:=s_e2_1,e3:=s_e3_1 }))))))):C_heckleref01_Not a res:=by
 unfold C_heckleref01_Not
 have kk:=cfOk [16] 17
 refine fD (x:=bodyOf Try.f100) kk Try.func100 ?_
 refine wkS [1] [(1,av_arr4_uint64 a)] (by kernel_rfl) ?_
 refine sD kk [] [1] [(4,.ptr 8 0),(7,.ptr 14 0),(8,av_arr4_uint64 a),(14,.agg [vI .u64 0,vI .u64 0,vI .u64 0,vI .u64 0])] obN ?_
 refine sD kk [] [] [(10,.ptr 20 0),(20,.agg [vI .u64 0,vI .u64 0,vI .u64 0,vI .u64 0])] obN ?_
 refine qD ?_
 refine sD kk [] [] [(13,vi 0)] obN ?_
 refine bD (id:=0) ?_
 obtain ⟨Inv16,mu17,h0Inv16,hInv16⟩:=h
 refine loD (fun (q:Int×Int×Int×Int×Int)=>(fun (s_e0_1:Int) (s_e1_1:Int) (s_e2_1:Int) (s_e3_1:Int) (i:Int)=>([(4,.ptr 8 0),(7,.ptr 14 0),(8,av_arr4_uint64 a),(10,.ptr 20 0),(13,vi i),(14,.agg [vI .u64 0,vI .u64 0,vI .u64 0,vI .u64 0]),(20,.agg [vI .u64 s_e0_1,vI .u64 s_e1_1,vI .u64 s_e2_1,vI .u64 s_e3_1])]:Sta)) q.1 q.2.1 q.2.2.1 q.2.2.2.1 q.2.2.2.2) (fun (q:Int×Int×Int×Int×Int)=>Inv16 q.1 q.2.1 q.2.2.1 q.2.2.2.1 q.2.2.2.2) (fun (q:Int×Int×Int×Int×Int)=>mu17 q.1 q.2.1 q.2.2.1 q.2.2.2.1 q.2.2.2.2) (0,0,0,0,0) [] h0Inv16 ?_
 rintro ⟨s_e0_1,s_e1_1,s_e2_1,s_e3_1,i⟩ hi
 have h:=hInv16 s_e0_1 s_e1_1 s_e2_1 s_e3_1 i hi
 refine qD ?_
 refine sD kk [] [] [(19,vB (decide (i < (256:Int))))] obN ?_
 refine cD (t:=6) (b:=decide (i < (256:Int))) (fun hb18=>?_) (fun hb18=>?_)
 ·have h:=h.1 hb18
  refine Sem.skip' (by kernel_rfl) Wk.refl ?_
  show Sem _ _ _ _ _
  refine wkD [19] ?_
  obtain ⟨J22,hJ22,h⟩:=h
  refine sjD (fun (q:Int×Int×Int×Int)=>J22 q.1 q.2.1 q.2.2.1 q.2.2.2) (fun (q:Int×Int×Int×Int)=>(fun (s_e0_3:Int) (s_e1_3:Int) (s_e2_3:Int) (s_e3_3:Int)=>([(4,.ptr 8 0),(7,.ptr 14 0),(8,av_arr4_uint64 a),(10,.ptr 20 0),(13,vi i),(14,.agg [vI .u64 0,vI .u64 0,vI .u64 0,vI .u64 0]),(20,.agg [vI .u64 s_e0_3,vI .u64 s_e1_3,vI .u64 s_e2_3,vI .u64 s_e3_3])]:Sta)) q.1 q.2.1 q.2.2.1 q.2.2.2) ?_ ?_
  ·rintro ⟨s_e0_3,s_e1_3,s_e2_3,s_e3_3⟩ hj
   have h:=hJ22 s_e0_3 s_e1_3 s_e2_3 s_e3_3 hj
   refine rD kk [] [] [(13,vi (w64 (i+1)))] obN ?_
   exact lD (s_e0_3,s_e1_3,s_e2_3,s_e3_3,(w64 (i+1))) [] h
  ·refine bD (id:=1) ?_
   obtain ⟨r0_10,hc23,h⟩:=h
   refine sD kk [.c (vB r0_10) []] [] [(37,vB (!r0_10))] (obC hc23 obN) ?_
   refine cD (t:=12) (b:=!r0_10) (fun hb24=>?_) (fun hb24=>?_)
   ·have h:=h.1 hb24
    obtain ⟨r0_11,hc25,h⟩:=h
    refine rD kk [.c (av_arr4_uint64 r0_11) []] [37] [(20,av_arr4_uint64 r0_11)] (obC hc25 obN) ?_
    exact jD ((arr4_uint64.e0 r0_11),(arr4_uint64.e1 r0_11),(arr4_uint64.e2 r0_11),(arr4_uint64.e3 r0_11)) [] h
   ·have h:=h.2 hb24
    refine Sem.skip' (by kernel_rfl) Wk.refl ?_
    exact jD (s_e0_1,s_e1_1,s_e2_1,s_e3_1) [] h
 ·have h:=h.2 hb18
  refine xD (i:=0) ?_
  show Sem _ _ _ _ _
  refine wkD [4,8,13,19] ?_
  refine sD kk [] [10,20] [(14,.agg [vI .u64 s_e0_1,vI .u64 s_e1_1,vI .u64 s_e2_1,vI .u64 s_e3_1])] obN ?_
  refine tD ?_
  obtain he0:=h
  subst res
  exact (endD [] (.agg [vI .u64 s_e0_1,vI .u64 s_e1_1,vI .u64 s_e2_1,vI .u64 s_e3_1]) []).1
set_option maxHeartbeats 1000000 in
theorem W_hecklelaw03_char (b:Int) (res:api_Rx)
 (h:(∃ r0:arr4_uint64,C_heckleref01_Of b b r0∧(res=({ Kind:=(2:Int),Set:=r0,Lo:=(0:Int),Hi:=(0:Int),Kids:=[] })))):C_hecklelaw03_char b res:=by
 unfold C_hecklelaw03_char
 have kk:=cfOk [] 7
 refine fD (x:=bodyOf Try.f38) kk Try.func38 ?_
 refine wkS [1] [(1,vi b)] (by kernel_rfl) ?_
 refine sDE kk [] [] [(7,.ptr 14 0),(14,.agg [vi 0,vI .u64 0,vI .u64 0,vI .u64 0,vI .u64 0,vi 0,vi 0,.own 36 ([])])] [(7,.ptr 14 0),(14,.agg [vi 0,vI .u64 0,vI .u64 0,vI .u64 0,vI .u64 0,vi 0,vi 0,oL 36 enc_api_Rx ([])])] obN ?_
 obtain ⟨r0,hc0,h⟩:=h
 refine sDE kk [.c (av_arr4_uint64 r0) []] [1] [(14,.agg [vi 2,vI .u64 (arr4_uint64.e0 r0),vI .u64 (arr4_uint64.e1 r0),vI .u64 (arr4_uint64.e2 r0),vI .u64 (arr4_uint64.e3 r0),vi 0,vi 0,.own 36 ([])])] [(14,.agg [vi 2,vI .u64 (arr4_uint64.e0 r0),vI .u64 (arr4_uint64.e1 r0),vI .u64 (arr4_uint64.e2 r0),vI .u64 (arr4_uint64.e3 r0),vi 0,vi 0,oL 36 enc_api_Rx ([])])] (obC hc0 obN) ?_
 refine tD ?_
 obtain he0:=h
 subst res
 exact (endD [] (.agg [vi 2,vI .u64 (arr4_uint64.e0 r0),vI .u64 (arr4_uint64.e1 r0),vI .u64 (arr4_uint64.e2 r0),vI .u64 (arr4_uint64.e3 r0),vi 0,vi 0,oL 36 enc_api_Rx ([])]) []).1
set_option maxHeartbeats 1000000 in
theorem W_hecklelaw03_Maker_leaf (m:hecklelaw03_Maker) (res:api_Rx) (fin:hecklelaw03_Maker)
 (h:(∃ r0:Int,∃ o:hecklelaw03_Maker,C_hecklelaw03_Maker_Pick 8 m r0 o∧(((r0 == 0)=true→(res=({ Kind:=(1:Int),Set:={ e0:=(0:Int),e1:=(0:Int),e2:=(0:Int),e3:=(0:Int) },Lo:=(0:Int),Hi:=(0:Int),Kids:=[] })∧fin=o))∧((r0 == 0)=false→(((r0 == 1)=true→(∃ r0_1:arr4_uint64,C_heckleref01_Of ((97:Int)) ((99:Int)) r0_1∧(res=({ Kind:=(2:Int),Set:=r0_1,Lo:=(0:Int),Hi:=(0:Int),Kids:=[] })∧fin=o)))∧((r0 == 1)=false→(((r0 == (2:Int))=true→(∃ r0_2:arr4_uint64,C_heckleref01_Of ((97:Int)) ((97:Int)) r0_2∧(∃ r0_3:arr4_uint64,C_heckleref01_Not r0_2 r0_3∧(res=({ Kind:=(2:Int),Set:=r0_3,Lo:=(0:Int),Hi:=(0:Int),Kids:=[] })∧fin=o))))∧((r0 == (2:Int))=false→(((r0 == (3:Int))=true→(∃ r0_4:Int,∃ o_1:hecklelaw03_Maker,C_hecklelaw03_Maker_Pick ((6:Int)) o r0_4 o_1∧((0:Int)≤r0_4)∧(Int.toNat r0_4 < (6:Nat))∧r0_4 < ↑(List.length ([(10:Int),(45:Int),(90:Int),(0:Int),(255:Int),(48:Int)]))∧(∃ r0_5:api_Rx,C_hecklelaw03_char (gd [(10:Int),(45:Int),(90:Int),(0:Int),(255:Int),(48:Int)] r0_4) r0_5∧(res=r0_5∧fin=o_1))))∧((r0 == (3:Int))=false→(∃ r0_6:Int,∃ o_2:hecklelaw03_Maker,C_hecklelaw03_Maker_Pick 3 o r0_6 o_2∧(∃ r0_7:api_Rx,C_hecklelaw03_char (w64 ((97:Int)+r0_6)) r0_7∧(res=r0_7∧fin=o_2))))))))))))):C_hecklelaw03_Maker_leaf m res fin:=by
 unfold C_hecklelaw03_Maker_leaf
 have kk:=cfOk [] 29
 refine fD (x:=bodyOf Try.f71) kk Try.func71 ?_
 refine wkS [1,3] [(1,.ptr 3 0),(3,av_hecklelaw03_Maker m)] (by kernel_rfl) ?_
 refine sDE kk [] [] [(7,.ptr 14 0),(14,.agg [vi 0,vI .u64 0,vI .u64 0,vI .u64 0,vI .u64 0,vi 0,vi 0,.own 36 ([])])] [(7,.ptr 14 0),(14,.agg [vi 0,vI .u64 0,vI .u64 0,vI .u64 0,vI .u64 0,vi 0,vi 0,oL 36 enc_api_Rx ([])])] obN ?_
 refine qD ?_
 obtain ⟨r0,o,hc0,h⟩:=h
 refine sD kk [.c (vi r0) [av_hecklelaw03_Maker o]] [] [(3,av_hecklelaw03_Maker o),(13,vi r0)] (obC hc0 obN) ?_
 refine bD (id:=0) ?_
 refine sD kk [] [] [(16,vB (r0 == 0))] obN ?_
 refine cD (t:=5) (b:=r0 == 0) (fun hb1=>?_) (fun hb1=>?_)
 ·have h:=h.1 hb1
  refine sDE kk [] [1,13,16] [(14,.agg [vi 1,vI .u64 0,vI .u64 0,vI .u64 0,vI .u64 0,vi 0,vi 0,.own 36 ([])])] [(14,.agg [vi 1,vI .u64 0,vI .u64 0,vI .u64 0,vI .u64 0,vi 0,vi 0,oL 36 enc_api_Rx ([])])] obN ?_
  refine tD ?_
  obtain ⟨he0,he1⟩:=h
  subst res fin
  exact (endD [] (.agg [vi 1,vI .u64 0,vI .u64 0,vI .u64 0,vI .u64 0,vi 0,vi 0,oL 36 enc_api_Rx ([])]) [av_hecklelaw03_Maker o]).1
 ·have h:=h.2 hb1
  refine sD kk [] [16] [(25,vB (r0 == 1))] obN ?_
  refine cD (t:=8) (b:=r0 == 1) (fun hb2=>?_) (fun hb2=>?_)
  ·have h:=h.1 hb2
   obtain ⟨r0_1,hc3,h⟩:=h
   refine sDE kk [.c (av_arr4_uint64 r0_1) []] [1,13,25] [(14,.agg [vi 2,vI .u64 (arr4_uint64.e0 r0_1),vI .u64 (arr4_uint64.e1 r0_1),vI .u64 (arr4_uint64.e2 r0_1),vI .u64 (arr4_uint64.e3 r0_1),vi 0,vi 0,.own 36 ([])])] [(14,.agg [vi 2,vI .u64 (arr4_uint64.e0 r0_1),vI .u64 (arr4_uint64.e1 r0_1),vI .u64 (arr4_uint64.e2 r0_1),vI .u64 (arr4_uint64.e3 r0_1),vi 0,vi 0,oL 36 enc_api_Rx ([])])] (obC hc3 obN) ?_
   refine tD ?_
   obtain ⟨he0,he1⟩:=h
   subst res fin
   exact (endD [] (.agg [vi 2,vI .u64 (arr4_uint64.e0 r0_1),vI .u64 (arr4_uint64.e1 r0_1),vI .u64 (arr4_uint64.e2 r0_1),vI .u64 (arr4_uint64.e3 r0_1),vi 0,vi 0,oL 36 enc_api_Rx ([])]) [av_hecklelaw03_Maker o]).1
  ·have h:=h.2 hb2
   refine sD kk [] [25] [(37,vB (r0 == (2:Int)))] obN ?_
   refine cD (t:=12) (b:=r0 == (2:Int)) (fun hb4=>?_) (fun hb4=>?_)
   ·have h:=h.1 hb4
    obtain ⟨r0_2,hc5,h⟩:=h
    obtain ⟨r0_3,hc6,h⟩:=h
    refine sDE kk [.c (av_arr4_uint64 r0_2) [],.c (av_arr4_uint64 r0_3) []] [1,13,37] [(14,.agg [vi 2,vI .u64 (arr4_uint64.e0 r0_3),vI .u64 (arr4_uint64.e1 r0_3),vI .u64 (arr4_uint64.e2 r0_3),vI .u64 (arr4_uint64.e3 r0_3),vi 0,vi 0,.own 36 ([])])] [(14,.agg [vi 2,vI .u64 (arr4_uint64.e0 r0_3),vI .u64 (arr4_uint64.e1 r0_3),vI .u64 (arr4_uint64.e2 r0_3),vI .u64 (arr4_uint64.e3 r0_3),vi 0,vi 0,oL 36 enc_api_Rx ([])])] (obC hc5 (obC hc6 obN)) ?_
    refine tD ?_
    obtain ⟨he0,he1⟩:=h
    subst res fin
    exact (endD [] (.agg [vi 2,vI .u64 (arr4_uint64.e0 r0_3),vI .u64 (arr4_uint64.e1 r0_3),vI .u64 (arr4_uint64.e2 r0_3),vI .u64 (arr4_uint64.e3 r0_3),vi 0,vi 0,oL 36 enc_api_Rx ([])]) [av_hecklelaw03_Maker o]).1
   ·have h:=h.2 hb4
    refine sD kk [] [13,37] [(52,vB (r0 == (3:Int)))] obN ?_
    refine cD (t:=17) (b:=r0 == (3:Int)) (fun hb7=>?_) (fun hb7=>?_)
    ·have h:=h.1 hb7
     obtain ⟨r0_4,o_1,hc8,h⟩:=h
     obtain ⟨h9,h⟩:=h
     obtain ⟨h10,h⟩:=h
     obtain ⟨h11,h⟩:=h
     obtain ⟨r0_5,hc12,h⟩:=h
     refine sD kk [.c (vi r0_4) [av_hecklelaw03_Maker o_1],.e (fi (gd [(10:Int),(45:Int),(90:Int),(0:Int),(255:Int),(48:Int)] r0_4)),.c (ao_api_Rx r0_5) []] [1,52] [(3,av_hecklelaw03_Maker o_1),(14,ao_api_Rx r0_5)] (obC hc8 (obC h9 (obC h10 (obC (show ([FV.pv (Value.int IntKind.i64 (10)),FV.pv (Value.int IntKind.i64 (45:Int)),FV.pv (Value.int IntKind.i64 (90:Int)),FV.pv (Value.int IntKind.i64 (0)),FV.pv (Value.int IntKind.i64 (255:Int)),FV.pv (Value.int IntKind.i64 (48:Int))])[((0:Nat)+Int.toNat r0_4:Nat)]?=some (fi (gd [(10:Int),(45:Int),(90:Int),(0:Int),(255:Int),(48:Int)] r0_4)) from by have:=idx_ok enc_i64 ([(10:Int),(45:Int),(90:Int),(0:Int),(255:Int),(48:Int)]) r0_4 _ rfl h9 h11;simpa only [nm,enq,enc_i64] using this) (obC hc12 obN))))) ?_
     refine tD ?_
     obtain ⟨he0,he1⟩:=h
     subst res fin
     exact (endD [] (ao_api_Rx r0_5) [av_hecklelaw03_Maker o_1]).1
    ·have h:=h.2 hb7
     refine Sem.skip' (by kernel_rfl) Wk.refl ?_
     show Sem _ _ _ _ _
     refine wkD [52] ?_
     obtain ⟨r0_6,o_2,hc13,h⟩:=h
     obtain ⟨r0_7,hc14,h⟩:=h
     refine sD kk [.c (vi r0_6) [av_hecklelaw03_Maker o_2],.c (ao_api_Rx r0_7) []] [1] [(3,av_hecklelaw03_Maker o_2),(14,ao_api_Rx r0_7)] (obC hc13 (obC hc14 obN)) ?_
     refine tD ?_
     obtain ⟨he0,he1⟩:=h
     subst res fin
     exact (endD [] (ao_api_Rx r0_7) [av_hecklelaw03_Maker o_2]).1
set_option maxHeartbeats 1000000 in
theorem W_hecklelaw03_joined (kind:Int) (l:(List api_Rx)) (res:api_Rx)
 (h:(∃ (Inv32:List api_Rx→Int→Prop) (mu33:List api_Rx→Int→Nat),Inv32 ([]) 0∧(∀ (x_Kids_1:List api_Rx) (i:Int),Inv32 x_Kids_1 i→(((decide (i < (↑(List.length l):Int)))=true→(∃ J44:List api_Rx→Prop,(∀ (x_Kids_3:List api_Rx),J44 x_Kids_3→(Inv32 x_Kids_3 (w64 (i+1))∧mu33 x_Kids_3 (w64 (i+1)) < mu33 x_Kids_1 i))∧((0:Int)≤i)∧i < ↑(List.length l)∧(((api_Rx.Kind (gd l i) == kind)=true→((0:Int)≤i)∧i < ↑(List.length l)∧((List.length x_Kids_1+List.length (api_Rx.Kids (gd l i))) * (80:Nat)≤(2:Nat) ^ (47:Nat))∧J44 (x_Kids_1++api_Rx.Kids (gd l i)))∧((api_Rx.Kind (gd l i) == kind)=false→((0:Int)≤i)∧i < ↑(List.length l)∧((List.length x_Kids_1+(1:Nat)) * (80:Nat)≤(2:Nat) ^ (47:Nat))∧J44 (x_Kids_1++[gd l i])))))∧((decide (i < (↑(List.length l):Int)))=false→(res=({ Kind:=kind,Set:={ e0:=(0:Int),e1:=(0:Int),e2:=(0:Int),e3:=(0:Int) },Lo:=(0:Int),Hi:=(0:Int),Kids:=x_Kids_1 }))))))):C_hecklelaw03_joined kind l res:=by
 unfold C_hecklelaw03_joined
 have kk:=cfOk [40] 41
 refine fD (x:=bodyOf Try.f72) kk Try.func72 ?_
 refine wkS [1,4] [(1,vi kind),(4,vL enc_api_Rx l)] (by kernel_rfl) ?_
 refine sDE kk [] [] [(13,.ptr 26 0),(26,.agg [vi 0,vI .u64 0,vI .u64 0,vI .u64 0,vI .u64 0,vi 0,vi 0,.own 36 ([])])] [(13,.ptr 26 0),(26,.agg [vi 0,vI .u64 0,vI .u64 0,vI .u64 0,vI .u64 0,vi 0,vi 0,oL 36 enc_api_Rx ([])])] obN ?_
 refine sDE kk [] [] [(16,.ptr 32 0),(32,.agg [vi kind,vI .u64 0,vI .u64 0,vI .u64 0,vI .u64 0,vi 0,vi 0,.own 36 ([])])] [(16,.ptr 32 0),(32,.agg [vi kind,vI .u64 0,vI .u64 0,vI .u64 0,vI .u64 0,vi 0,vi 0,oL 36 enc_api_Rx ([])])] obN ?_
 refine qD ?_
 refine sD kk [] [] [(19,vi 0)] obN ?_
 refine bD (id:=0) ?_
 obtain ⟨Inv32,mu33,h0Inv32,hInv32⟩:=h
 refine loD (fun (q:List api_Rx×Int)=>(fun (x_Kids_1:List api_Rx) (i:Int)=>([(1,vi kind),(4,vL enc_api_Rx l),(13,.ptr 26 0),(16,.ptr 32 0),(19,vi i),(26,.agg [vi 0,vI .u64 0,vI .u64 0,vI .u64 0,vI .u64 0,vi 0,vi 0,oL 36 enc_api_Rx ([])]),(32,.agg [vi kind,vI .u64 0,vI .u64 0,vI .u64 0,vI .u64 0,vi 0,vi 0,oL 36 enc_api_Rx x_Kids_1])]:Sta)) q.1 q.2) (fun (q:List api_Rx×Int)=>Inv32 q.1 q.2) (fun (q:List api_Rx×Int)=>mu33 q.1 q.2) (([]),0) [] h0Inv32 ?_
 rintro ⟨x_Kids_1,i⟩ hi
 have h:=hInv32 x_Kids_1 i hi
 refine qD ?_
 refine sDE kk [] [] [(37,vB (decide (i < (↑(List.length (List.map enc_api_Rx l)):Int))))] [(37,vB (decide (i < (↑(List.length l):Int))))] obN ?_
 refine cD (t:=12) (b:=decide (i < (↑(List.length l):Int))) (fun hb34=>?_) (fun hb34=>?_)
 ·have h:=h.1 hb34
  refine Sem.skip' (by kernel_rfl) Wk.refl ?_
  show Sem _ _ _ _ _
  refine wkD [37] ?_
  obtain ⟨J44,hJ44,h⟩:=h
  refine sjD (fun (q:List api_Rx)=>J44 q) (fun (q:List api_Rx)=>(fun (x_Kids_3:List api_Rx)=>([(1,vi kind),(4,vL enc_api_Rx l),(13,.ptr 26 0),(16,.ptr 32 0),(19,vi i),(26,.agg [vi 0,vI .u64 0,vI .u64 0,vI .u64 0,vI .u64 0,vi 0,vi 0,oL 36 enc_api_Rx ([])]),(32,.agg [vi kind,vI .u64 0,vI .u64 0,vI .u64 0,vI .u64 0,vi 0,vi 0,oL 36 enc_api_Rx x_Kids_3])]:Sta)) q) ?_ ?_
  ·rintro x_Kids_3 hj
   have h:=hJ44 x_Kids_3 hj
   refine rD kk [] [] [(19,vi (w64 (i+1)))] obN ?_
   exact lD (x_Kids_3,(w64 (i+1))) [] h
  ·refine bD (id:=1) ?_
   obtain ⟨h45,h⟩:=h
   obtain ⟨h46,h⟩:=h
   refine sD kk [.e (fv_api_Rx (gd l i))] [] [(64,vB (api_Rx.Kind (gd l i) == kind))] (obC h45 (obC (idx_ok enc_api_Rx l i _ (enc_api_Rx_eq _) h45 h46) obN)) ?_
   refine cD (t:=21) (b:=api_Rx.Kind (gd l i) == kind) (fun hb47=>?_) (fun hb47=>?_)
   ·have h:=h.1 hb47
    obtain ⟨h48,h⟩:=h
    obtain ⟨h49,h⟩:=h
    obtain ⟨h50,h⟩:=h
    refine rDE kk [.e (fv_api_Rx (gd l i))] [64] [(32,.agg [vi kind,vI .u64 0,vI .u64 0,vI .u64 0,vI .u64 0,vi 0,vi 0,.own 36 (List.map enc_api_Rx x_Kids_1++List.map enc_api_Rx (api_Rx.Kids (gd l i)))])] [(32,.agg [vi kind,vI .u64 0,vI .u64 0,vI .u64 0,vI .u64 0,vi 0,vi 0,oL 36 enc_api_Rx (x_Kids_1++api_Rx.Kids (gd l i))])] (obC h48 (obC (idx_ok enc_api_Rx l i _ (enc_api_Rx_eq _) h48 h49) (obC (show (0:Nat)=(0:Nat)∧List.length (List.map enc_api_Rx x_Kids_1)=List.length (List.map enc_api_Rx x_Kids_1) from ⟨rfl,rfl⟩) (obC (show (List.length (List.map enc_api_Rx x_Kids_1)+List.length (List.map enc_api_Rx (api_Rx.Kids (gd l i)))) * (80:Nat)≤(2:Nat) ^ (47:Nat) from by simpa only [nm] using h50) (obC (show List.all (List.map enc_api_Rx (api_Rx.Kids (gd l i))) (FV.fits (8:Nat))=true from by first | exact fits_api_Rx _ | exact keysenc_api_Rx _ | rfl | simp [isByteF,FV.fits,FV.size,FV.cells,FV.one,enc_api_Rx_eq]) obN))))) ?_
    exact jD (x_Kids_1++api_Rx.Kids (gd l i)) [] h
   ·have h:=h.2 hb47
    obtain ⟨h51,h⟩:=h
    obtain ⟨h52,h⟩:=h
    obtain ⟨h53,h⟩:=h
    refine rDE kk [.e (fv_api_Rx (gd l i))] [64] [(32,.agg [vi kind,vI .u64 0,vI .u64 0,vI .u64 0,vI .u64 0,vi 0,vi 0,.own 36 (List.map enc_api_Rx x_Kids_1++List.take (List.length [FV.agg [FV.pv (Value.int IntKind.i64 (api_Rx.Kind (gd l i))),FV.pv (Value.int IntKind.u64 (arr4_uint64.e0 (api_Rx.Set (gd l i)))),FV.pv (Value.int IntKind.u64 (arr4_uint64.e1 (api_Rx.Set (gd l i)))),FV.pv (Value.int IntKind.u64 (arr4_uint64.e2 (api_Rx.Set (gd l i)))),FV.pv (Value.int IntKind.u64 (arr4_uint64.e3 (api_Rx.Set (gd l i)))),FV.pv (Value.int IntKind.i64 (api_Rx.Lo (gd l i))),FV.pv (Value.int IntKind.i64 (api_Rx.Hi (gd l i))),FV.sl (List.map enc_api_Rx (api_Rx.Kids (gd l i)))]]) (List.drop (0:Nat) [FV.agg [FV.pv (Value.int IntKind.i64 (api_Rx.Kind (gd l i))),FV.pv (Value.int IntKind.u64 (arr4_uint64.e0 (api_Rx.Set (gd l i)))),FV.pv (Value.int IntKind.u64 (arr4_uint64.e1 (api_Rx.Set (gd l i)))),FV.pv (Value.int IntKind.u64 (arr4_uint64.e2 (api_Rx.Set (gd l i)))),FV.pv (Value.int IntKind.u64 (arr4_uint64.e3 (api_Rx.Set (gd l i)))),FV.pv (Value.int IntKind.i64 (api_Rx.Lo (gd l i))),FV.pv (Value.int IntKind.i64 (api_Rx.Hi (gd l i))),FV.sl (List.map enc_api_Rx (api_Rx.Kids (gd l i)))]]))])] [(32,.agg [vi kind,vI .u64 0,vI .u64 0,vI .u64 0,vI .u64 0,vi 0,vi 0,oL 36 enc_api_Rx (x_Kids_1++[gd l i])])] (obC h51 (obC (idx_ok enc_api_Rx l i _ (enc_api_Rx_eq _) h51 h52) (obC (show (0:Nat)=(0:Nat)∧List.length (List.map enc_api_Rx x_Kids_1)=List.length (List.map enc_api_Rx x_Kids_1) from ⟨rfl,rfl⟩) (obC (show (List.length (List.map enc_api_Rx x_Kids_1)+List.length (List.take (1:Nat) (List.drop (0:Nat) [FV.agg [FV.pv (Value.int IntKind.i64 (api_Rx.Kind (gd l i))),FV.pv (Value.int IntKind.u64 (arr4_uint64.e0 (api_Rx.Set (gd l i)))),FV.pv (Value.int IntKind.u64 (arr4_uint64.e1 (api_Rx.Set (gd l i)))),FV.pv (Value.int IntKind.u64 (arr4_uint64.e2 (api_Rx.Set (gd l i)))),FV.pv (Value.int IntKind.u64 (arr4_uint64.e3 (api_Rx.Set (gd l i)))),FV.pv (Value.int IntKind.i64 (api_Rx.Lo (gd l i))),FV.pv (Value.int IntKind.i64 (api_Rx.Hi (gd l i))),FV.sl (List.map enc_api_Rx (api_Rx.Kids (gd l i)))]]))) * (80:Nat)≤(2:Nat) ^ (47:Nat) from by simpa only [nm] using h53) (obC (show List.all (List.take (1:Nat) (List.drop (0:Nat) [FV.agg [FV.pv (Value.int IntKind.i64 (api_Rx.Kind (gd l i))),FV.pv (Value.int IntKind.u64 (arr4_uint64.e0 (api_Rx.Set (gd l i)))),FV.pv (Value.int IntKind.u64 (arr4_uint64.e1 (api_Rx.Set (gd l i)))),FV.pv (Value.int IntKind.u64 (arr4_uint64.e2 (api_Rx.Set (gd l i)))),FV.pv (Value.int IntKind.u64 (arr4_uint64.e3 (api_Rx.Set (gd l i)))),FV.pv (Value.int IntKind.i64 (api_Rx.Lo (gd l i))),FV.pv (Value.int IntKind.i64 (api_Rx.Hi (gd l i))),FV.sl (List.map enc_api_Rx (api_Rx.Kids (gd l i)))]])) (FV.fits (8:Nat))=true from by first | exact fits_i64 _ | exact keysenc_i64 _ | rfl | simp [isByteF,FV.fits,FV.size,FV.cells,FV.one,enc_api_Rx_eq]) obN))))) ?_
    exact jD (x_Kids_1++[gd l i]) [] h
 ·have h:=h.2 hb34
  refine xD (i:=0) ?_
  show Sem _ _ _ _ _
  refine wkD [1,4,19,37] ?_
  refine sD kk [] [16,32] [(26,.agg [vi kind,vI .u64 0,vI .u64 0,vI .u64 0,vI .u64 0,vi 0,vi 0,oL 36 enc_api_Rx x_Kids_1])] (obC (show (0:Nat)=(0:Nat)∧List.length (List.map enc_api_Rx x_Kids_1)=List.length (List.map enc_api_Rx x_Kids_1) from ⟨rfl,rfl⟩) obN) ?_
  refine tD ?_
  obtain he0:=h
  subst res
  exact (endD [] (.agg [vi kind,vI .u64 0,vI .u64 0,vI .u64 0,vI .u64 0,vi 0,vi 0,oL 36 enc_api_Rx x_Kids_1]) []).1
end Go.Ev
set_option linter.unusedSimpArgs false
set_option linter.unusedVariables false
namespace Go.Ev
open Go Go.Proofs
set_option maxRecDepth 8000
set_option maxHeartbeats 1000000 in
theorem W_hecklelaw03_Maker_Rx (deep:Int) (m:hecklelaw03_Maker) (res:api_Rx) (fin:hecklelaw03_Maker)
 (h:(∃ r0:Int,∃ o:hecklelaw03_Maker,C_hecklelaw03_Maker_Pick 8 m r0 o∧(((decide (deep < (1:Int)) || (decide (r0 < (2:Int)) || decide (hecklelaw03_Maker.At o≥(↑(List.length (hecklelaw03_Maker.L o)):Int))))=true→(∃ r0_1:api_Rx,∃ o_1:hecklelaw03_Maker,C_hecklelaw03_Maker_leaf o r0_1 o_1∧(res=r0_1∧fin=o_1)))∧((decide (deep < (1:Int)) || (decide (r0 < (2:Int)) || decide (hecklelaw03_Maker.At o≥(↑(List.length (hecklelaw03_Maker.L o)):Int))))=false→(((decide (r0 < (5:Int)))=true→(∃ r0_2:api_Rx,∃ o_2:hecklelaw03_Maker,C_hecklelaw03_Maker_Rx (w64 (deep - 1)) o r0_2 o_2∧(∃ r0_3:api_Rx,∃ o_3:hecklelaw03_Maker,C_hecklelaw03_Maker_Rx (w64 (deep - 1)) o_2 r0_3 o_3∧(∃ r0_4:api_Rx,C_hecklelaw03_joined 3 ([r0_2,r0_3]) r0_4∧(res=r0_4∧fin=o_3)))))∧((decide (r0 < (5:Int)))=false→(((r0 == (5:Int))=true→(∃ r0_5:api_Rx,∃ o_4:hecklelaw03_Maker,C_hecklelaw03_Maker_Rx (w64 (deep - 1)) o r0_5 o_4∧(∃ r0_6:api_Rx,∃ o_5:hecklelaw03_Maker,C_hecklelaw03_Maker_Rx (w64 (deep - 1)) o_4 r0_6 o_5∧(∃ r0_7:api_Rx,C_hecklelaw03_joined 4 ([r0_5,r0_6]) r0_7∧(res=r0_7∧fin=o_5)))))∧((r0 == (5:Int))=false→(∃ r0_8:Int,∃ o_6:hecklelaw03_Maker,C_hecklelaw03_Maker_Pick 3 o r0_8 o_6∧(∃ J17:List Int→Int→Int→Prop,(∀ (o0_L:List Int) (o0_At:Int) (x_Hi:Int),J17 o0_L o0_At x_Hi→(∃ r0_11:api_Rx,∃ o_9:hecklelaw03_Maker,C_hecklelaw03_Maker_Rx (w64 (deep - 2)) ({ L:=o0_L,At:=o0_At }) r0_11 o_9∧(res=({ Kind:=(5:Int),Set:={ e0:=(0:Int),e1:=(0:Int),e2:=(0:Int),e3:=(0:Int) },Lo:=r0_8,Hi:=x_Hi,Kids:=[r0_11] })∧fin=o_9)))∧(∃ r0_12:Int,∃ o_10:hecklelaw03_Maker,C_hecklelaw03_Maker_Pick 2 o_6 r0_12 o_10∧(((r0_12 == 1)=true→(∃ r0_13:Int,∃ o_11:hecklelaw03_Maker,C_hecklelaw03_Maker_Pick 2 o_10 r0_13 o_11∧J17 (hecklelaw03_Maker.L o_11) (hecklelaw03_Maker.At o_11) (w64 ((if r0_8 > (1:Int) then r0_8 else (1:Int))+r0_13))))∧((r0_12 == 1)=false→J17 (hecklelaw03_Maker.L o_10) (hecklelaw03_Maker.At o_10) (-1)))))))))))))):C_hecklelaw03_Maker_Rx deep m res fin:=by
 unfold C_hecklelaw03_Maker_Rx
 have kk:=cfOk [74] 75
 refine fD (x:=bodyOf Try.f37) kk Try.func37 ?_
 refine wkS [1,3,4] [(1,.ptr 3 0),(3,av_hecklelaw03_Maker m),(4,vi deep)] (by kernel_rfl) ?_
 refine sDE kk [] [] [(13,.ptr 26 0),(26,.agg [vi 0,vI .u64 0,vI .u64 0,vI .u64 0,vI .u64 0,vi 0,vi 0,.own 36 ([])])] [(13,.ptr 26 0),(26,.agg [vi 0,vI .u64 0,vI .u64 0,vI .u64 0,vI .u64 0,vi 0,vi 0,oL 36 enc_api_Rx ([])])] obN ?_
 obtain ⟨r0,o,hc0,h⟩:=h
 refine sD kk [.c (vi r0) [av_hecklelaw03_Maker o]] [] [(3,av_hecklelaw03_Maker o),(16,vi r0)] (obC hc0 obN) ?_
 refine qD ?_
 refine sM [] [(79,vB (decide (deep < (1:Int)) || (decide (r0 < (2:Int)) || decide (hecklelaw03_Maker.At o≥(↑(List.length (hecklelaw03_Maker.L o)):Int)))))] ?_ (fun hk0=>?_)
 ·refine cD (t:=26) (b:=decide (deep < (1:Int)) || (decide (r0 < (2:Int)) || decide (hecklelaw03_Maker.At o≥(↑(List.length (hecklelaw03_Maker.L o)):Int)))) (fun hb3=>?_) (fun hb3=>?_)
  ·have h:=h.1 hb3
   obtain ⟨r0_1,o_1,hc4,h⟩:=h
   refine sD kk [.c (ao_api_Rx r0_1) [av_hecklelaw03_Maker o_1]] [1,4,16,79] [(3,av_hecklelaw03_Maker o_1),(26,ao_api_Rx r0_1)] (obC hc4 obN) ?_
   refine tD ?_
   obtain ⟨he0,he1⟩:=h
   subst res fin
   exact (endD [] (ao_api_Rx r0_1) [av_hecklelaw03_Maker o_1]).1
  ·have h:=h.2 hb3
   refine Sem.skip' (by kernel_rfl) Wk.refl ?_
   show Sem _ _ _ _ _
   refine wkD [79] ?_
   refine qD ?_
   refine bD (id:=0) ?_
   refine sD kk [] [] [(88,vB (decide (r0 < (5:Int))))] obN ?_
   refine cD (t:=29) (b:=decide (r0 < (5:Int))) (fun hb5=>?_) (fun hb5=>?_)
   ·have h:=h.1 hb5
    obtain ⟨r0_2,o_2,hc6,h⟩:=h
    obtain ⟨r0_3,o_3,hc7,h⟩:=h
    obtain ⟨r0_4,hc8,h⟩:=h
    refine sD kk [.c (ao_api_Rx r0_2) [av_hecklelaw03_Maker o_2],.c (ao_api_Rx r0_3) [av_hecklelaw03_Maker o_3],.c (ao_api_Rx r0_4) []] [1,4,16,88] [(3,av_hecklelaw03_Maker o_3),(26,ao_api_Rx r0_4)] (obC hc6 (obC hc7 (obC (Eq.mp (by unfold C_hecklelaw03_joined;(try simp only [List.drop_zero,List.take_length]);first | done | simp only [nm,enq]:C_hecklelaw03_joined 3 ([r0_2,r0_3]) r0_4=CallE Try.prog 72 [vi 3,.f (FV.sl (List.take (List.length [FV.agg [FV.pv (Value.int IntKind.i64 (api_Rx.Kind r0_2)),FV.pv (Value.int IntKind.u64 (arr4_uint64.e0 (api_Rx.Set r0_2))),FV.pv (Value.int IntKind.u64 (arr4_uint64.e1 (api_Rx.Set r0_2))),FV.pv (Value.int IntKind.u64 (arr4_uint64.e2 (api_Rx.Set r0_2))),FV.pv (Value.int IntKind.u64 (arr4_uint64.e3 (api_Rx.Set r0_2))),FV.pv (Value.int IntKind.i64 (api_Rx.Lo r0_2)),FV.pv (Value.int IntKind.i64 (api_Rx.Hi r0_2)),FV.sl (List.take (List.length (List.map enc_api_Rx (api_Rx.Kids r0_2))) (List.drop (0:Nat) (List.map enc_api_Rx (api_Rx.Kids r0_2))))],FV.agg [FV.pv (Value.int IntKind.i64 (api_Rx.Kind r0_3)),FV.pv (Value.int IntKind.u64 (arr4_uint64.e0 (api_Rx.Set r0_3))),FV.pv (Value.int IntKind.u64 (arr4_uint64.e1 (api_Rx.Set r0_3))),FV.pv (Value.int IntKind.u64 (arr4_uint64.e2 (api_Rx.Set r0_3))),FV.pv (Value.int IntKind.u64 (arr4_uint64.e3 (api_Rx.Set r0_3))),FV.pv (Value.int IntKind.i64 (api_Rx.Lo r0_3)),FV.pv (Value.int IntKind.i64 (api_Rx.Hi r0_3)),FV.sl (List.take (List.length (List.map enc_api_Rx (api_Rx.Kids r0_3))) (List.drop (0:Nat) (List.map enc_api_Rx (api_Rx.Kids r0_3))))]]) (List.drop (0:Nat) [FV.agg [FV.pv (Value.int IntKind.i64 (api_Rx.Kind r0_2)),FV.pv (Value.int IntKind.u64 (arr4_uint64.e0 (api_Rx.Set r0_2))),FV.pv (Value.int IntKind.u64 (arr4_uint64.e1 (api_Rx.Set r0_2))),FV.pv (Value.int IntKind.u64 (arr4_uint64.e2 (api_Rx.Set r0_2))),FV.pv (Value.int IntKind.u64 (arr4_uint64.e3 (api_Rx.Set r0_2))),FV.pv (Value.int IntKind.i64 (api_Rx.Lo r0_2)),FV.pv (Value.int IntKind.i64 (api_Rx.Hi r0_2)),FV.sl (List.take (List.length (List.map enc_api_Rx (api_Rx.Kids r0_2))) (List.drop (0:Nat) (List.map enc_api_Rx (api_Rx.Kids r0_2))))],FV.agg [FV.pv (Value.int IntKind.i64 (api_Rx.Kind r0_3)),FV.pv (Value.int IntKind.u64 (arr4_uint64.e0 (api_Rx.Set r0_3))),FV.pv (Value.int IntKind.u64 (arr4_uint64.e1 (api_Rx.Set r0_3))),FV.pv (Value.int IntKind.u64 (arr4_uint64.e2 (api_Rx.Set r0_3))),FV.pv (Value.int IntKind.u64 (arr4_uint64.e3 (api_Rx.Set r0_3))),FV.pv (Value.int IntKind.i64 (api_Rx.Lo r0_3)),FV.pv (Value.int IntKind.i64 (api_Rx.Hi r0_3)),FV.sl (List.take (List.length (List.map enc_api_Rx (api_Rx.Kids r0_3))) (List.drop (0:Nat) (List.map enc_api_Rx (api_Rx.Kids r0_3))))]])))] [] (ao_api_Rx r0_4) []) hc8) obN))) ?_
    refine tD ?_
    obtain ⟨he0,he1⟩:=h
    subst res fin
    exact (endD [] (ao_api_Rx r0_4) [av_hecklelaw03_Maker o_3]).1
   ·have h:=h.2 hb5
    refine sD kk [] [16,88] [(127,vB (r0 == (5:Int)))] obN ?_
    refine cD (t:=42) (b:=r0 == (5:Int)) (fun hb9=>?_) (fun hb9=>?_)
    ·have h:=h.1 hb9
     obtain ⟨r0_5,o_4,hc10,h⟩:=h
     obtain ⟨r0_6,o_5,hc11,h⟩:=h
     obtain ⟨r0_7,hc12,h⟩:=h
     refine sD kk [.c (ao_api_Rx r0_5) [av_hecklelaw03_Maker o_4],.c (ao_api_Rx r0_6) [av_hecklelaw03_Maker o_5],.c (ao_api_Rx r0_7) []] [1,4,127] [(3,av_hecklelaw03_Maker o_5),(26,ao_api_Rx r0_7)] (obC hc10 (obC hc11 (obC (Eq.mp (by unfold C_hecklelaw03_joined;(try simp only [List.drop_zero,List.take_length]);first | done | simp only [nm,enq]:C_hecklelaw03_joined 4 ([r0_5,r0_6]) r0_7=CallE Try.prog 72 [vi 4,.f (FV.sl (List.take (List.length [FV.agg [FV.pv (Value.int IntKind.i64 (api_Rx.Kind r0_5)),FV.pv (Value.int IntKind.u64 (arr4_uint64.e0 (api_Rx.Set r0_5))),FV.pv (Value.int IntKind.u64 (arr4_uint64.e1 (api_Rx.Set r0_5))),FV.pv (Value.int IntKind.u64 (arr4_uint64.e2 (api_Rx.Set r0_5))),FV.pv (Value.int IntKind.u64 (arr4_uint64.e3 (api_Rx.Set r0_5))),FV.pv (Value.int IntKind.i64 (api_Rx.Lo r0_5)),FV.pv (Value.int IntKind.i64 (api_Rx.Hi r0_5)),FV.sl (List.take (List.length (List.map enc_api_Rx (api_Rx.Kids r0_5))) (List.drop (0:Nat) (List.map enc_api_Rx (api_Rx.Kids r0_5))))],FV.agg [FV.pv (Value.int IntKind.i64 (api_Rx.Kind r0_6)),FV.pv (Value.int IntKind.u64 (arr4_uint64.e0 (api_Rx.Set r0_6))),FV.pv (Value.int IntKind.u64 (arr4_uint64.e1 (api_Rx.Set r0_6))),FV.pv (Value.int IntKind.u64 (arr4_uint64.e2 (api_Rx.Set r0_6))),FV.pv (Value.int IntKind.u64 (arr4_uint64.e3 (api_Rx.Set r0_6))),FV.pv (Value.int IntKind.i64 (api_Rx.Lo r0_6)),FV.pv (Value.int IntKind.i64 (api_Rx.Hi r0_6)),FV.sl (List.take (List.length (List.map enc_api_Rx (api_Rx.Kids r0_6))) (List.drop (0:Nat) (List.map enc_api_Rx (api_Rx.Kids r0_6))))]]) (List.drop (0:Nat) [FV.agg [FV.pv (Value.int IntKind.i64 (api_Rx.Kind r0_5)),FV.pv (Value.int IntKind.u64 (arr4_uint64.e0 (api_Rx.Set r0_5))),FV.pv (Value.int IntKind.u64 (arr4_uint64.e1 (api_Rx.Set r0_5))),FV.pv (Value.int IntKind.u64 (arr4_uint64.e2 (api_Rx.Set r0_5))),FV.pv (Value.int IntKind.u64 (arr4_uint64.e3 (api_Rx.Set r0_5))),FV.pv (Value.int IntKind.i64 (api_Rx.Lo r0_5)),FV.pv (Value.int IntKind.i64 (api_Rx.Hi r0_5)),FV.sl (List.take (List.length (List.map enc_api_Rx (api_Rx.Kids r0_5))) (List.drop (0:Nat) (List.map enc_api_Rx (api_Rx.Kids r0_5))))],FV.agg [FV.pv (Value.int IntKind.i64 (api_Rx.Kind r0_6)),FV.pv (Value.int IntKind.u64 (arr4_uint64.e0 (api_Rx.Set r0_6))),FV.pv (Value.int IntKind.u64 (arr4_uint64.e1 (api_Rx.Set r0_6))),FV.pv (Value.int IntKind.u64 (arr4_uint64.e2 (api_Rx.Set r0_6))),FV.pv (Value.int IntKind.u64 (arr4_uint64.e3 (api_Rx.Set r0_6))),FV.pv (Value.int IntKind.i64 (api_Rx.Lo r0_6)),FV.pv (Value.int IntKind.i64 (api_Rx.Hi r0_6)),FV.sl (List.take (List.length (List.map enc_api_Rx (api_Rx.Kids r0_6))) (List.drop (0:Nat) (List.map enc_api_Rx (api_Rx.Kids r0_6))))]])))] [] (ao_api_Rx r0_7) []) hc12) obN))) ?_
     refine tD ?_
     obtain ⟨he0,he1⟩:=h
     subst res fin
     exact (endD [] (ao_api_Rx r0_7) [av_hecklelaw03_Maker o_5]).1
    ·have h:=h.2 hb9
     refine Sem.skip' (by kernel_rfl) Wk.refl ?_
     show Sem _ _ _ _ _
     refine wkD [127] ?_
     obtain ⟨r0_8,o_6,hc13,h⟩:=h
     refine sDE kk [.c (vi r0_8) [av_hecklelaw03_Maker o_6]] [] [(3,av_hecklelaw03_Maker o_6),(19,.ptr 38 0),(38,.agg [vi 5,vI .u64 0,vI .u64 0,vI .u64 0,vI .u64 0,vi r0_8,vi (-1),.own 36 ([])])] [(3,av_hecklelaw03_Maker o_6),(19,.ptr 38 0),(38,.agg [vi 5,vI .u64 0,vI .u64 0,vI .u64 0,vI .u64 0,vi r0_8,vi (-1),oL 36 enc_api_Rx ([])])] (obC hc13 obN) ?_
     obtain ⟨J17,hJ17,h⟩:=h
     refine sjD (fun (q:List Int×Int×Int)=>J17 q.1 q.2.1 q.2.2) (fun (q:List Int×Int×Int)=>(fun (o0_L:List Int) (o0_At:Int) (x_Hi:Int)=>([(1,.ptr 3 0),(3,.agg [vL enc_u8 o0_L,vi o0_At]),(4,vi deep),(13,.ptr 26 0),(19,.ptr 38 0),(26,.agg [vi 0,vI .u64 0,vI .u64 0,vI .u64 0,vI .u64 0,vi 0,vi 0,oL 36 enc_api_Rx ([])]),(38,.agg [vi 5,vI .u64 0,vI .u64 0,vI .u64 0,vI .u64 0,vi r0_8,vi x_Hi,oL 36 enc_api_Rx ([])])]:Sta)) q.1 q.2.1 q.2.2) ?_ ?_
     ·rintro ⟨o0_L,o0_At,x_Hi⟩ hj
      have h:=hJ17 o0_L o0_At x_Hi hj
      obtain ⟨r0_11,o_9,hc18,h⟩:=h
      refine sDE kk [.c (ao_api_Rx r0_11) [av_hecklelaw03_Maker o_9]] [1,4] [(3,av_hecklelaw03_Maker o_9),(38,.agg [vi 5,vI .u64 0,vI .u64 0,vI .u64 0,vI .u64 0,vi r0_8,vi x_Hi,.own 36 ([FV.agg [FV.pv (Value.int IntKind.i64 (api_Rx.Kind r0_11)),FV.pv (Value.int IntKind.u64 (arr4_uint64.e0 (api_Rx.Set r0_11))),FV.pv (Value.int IntKind.u64 (arr4_uint64.e1 (api_Rx.Set r0_11))),FV.pv (Value.int IntKind.u64 (arr4_uint64.e2 (api_Rx.Set r0_11))),FV.pv (Value.int IntKind.u64 (arr4_uint64.e3 (api_Rx.Set r0_11))),FV.pv (Value.int IntKind.i64 (api_Rx.Lo r0_11)),FV.pv (Value.int IntKind.i64 (api_Rx.Hi r0_11)),FV.sl (List.take (List.length (List.map enc_api_Rx (api_Rx.Kids r0_11))) (List.drop (0:Nat) (List.map enc_api_Rx (api_Rx.Kids r0_11))))]])])] [(3,av_hecklelaw03_Maker o_9),(38,.agg [vi 5,vI .u64 0,vI .u64 0,vI .u64 0,vI .u64 0,vi r0_8,vi x_Hi,oL 36 enc_api_Rx ([r0_11])])] (obC hc18 obN) ?_
      refine sD kk [] [19,38] [(26,.agg [vi 5,vI .u64 0,vI .u64 0,vI .u64 0,vI .u64 0,vi r0_8,vi x_Hi,oL 36 enc_api_Rx ([r0_11])])] (obC (show (0:Nat)=(0:Nat)∧(1:Nat)=List.length (List.map enc_api_Rx [r0_11]) from by first | decide | rfl | trivial | (simp only [nm]<;>first | decide | rfl | omega)) obN) ?_
      refine tD ?_
      obtain ⟨he0,he1⟩:=h
      subst res fin
      exact (endD [] (.agg [vi 5,vI .u64 0,vI .u64 0,vI .u64 0,vI .u64 0,vi r0_8,vi x_Hi,oL 36 enc_api_Rx ([r0_11])]) [av_hecklelaw03_Maker o_9]).1
     ·obtain ⟨r0_12,o_10,hc19,h⟩:=h
      refine sD kk [.c (vi r0_12) [av_hecklelaw03_Maker o_10]] [] [(3,av_hecklelaw03_Maker o_10),(181,vB (r0_12 == 1))] (obC hc19 obN) ?_
      refine cD (t:=60) (b:=r0_12 == 1) (fun hb20=>?_) (fun hb20=>?_)
      ·have h:=h.1 hb20
       obtain ⟨r0_13,o_11,hc21,h⟩:=h
       refine rDE kk [.c (vi r0_13) [av_hecklelaw03_Maker o_11]] [181] [(3,av_hecklelaw03_Maker o_11),(38,.agg [vi 5,vI .u64 0,vI .u64 0,vI .u64 0,vI .u64 0,vi r0_8,vi (w64 ((if true=true then if r0_8 > (1:Int) then r0_8 else (1:Int) else if r0_8 < (1:Int) then r0_8 else (1:Int))+r0_13)),oL 36 enc_api_Rx ([])])] [(3,av_hecklelaw03_Maker o_11),(38,.agg [vi 5,vI .u64 0,vI .u64 0,vI .u64 0,vI .u64 0,vi r0_8,vi (w64 ((if r0_8 > (1:Int) then r0_8 else (1:Int))+r0_13)),oL 36 enc_api_Rx ([])])] (obC hc21 obN) ?_
       exact jD ((hecklelaw03_Maker.L o_11),(hecklelaw03_Maker.At o_11),(w64 ((if r0_8 > (1:Int) then r0_8 else (1:Int))+r0_13))) [] h
      ·have h:=h.2 hb20
       refine Sem.skip' (by kernel_rfl) Wk.refl ?_
       exact jD ((hecklelaw03_Maker.L o_10),(hecklelaw03_Maker.At o_10),(-1)) [] h
 ·rcases Bool.eq_false_or_eq_true (decide (deep < (1:Int))) with hb1 | hb1
  ·refine sD kk [bF,bF,bT,bF,bF,bF,bF,bF,bF,bF,bF,bF,bF,bT] [] [(79,vB true)] (obC (gff hb1) (obC (gff hb1) (obC hb1 (oF (oF (oF (oF (oF (oF (oF (oF (oF (oF (oT obN)))))))))))))) ?_
   exact Sem.cast (by try rw [hb1];kernel_rfl) hk0
  ·rcases Bool.eq_false_or_eq_true (decide (r0 < (2:Int))) with hb2 | hb2
   ·refine sD kk [bT,bT,bF,bF,bF,bF,bF,bF,bF,bF,bF,bF,bF,bT] [] [(79,vB true)] (obC (gft hb1) (obC (gft hb1) (obC hb1 (obC (gff hb2) (obC (gff hb2) (obC (gff hb2) (obC (gff hb2) (obC (gff hb2) (obC (gff hb2) (obC (gff hb2) (obC (gff hb2) (obC (gff hb2) (obC (gff hb2) (obC hb2 obN)))))))))))))) ?_
    exact Sem.cast (by try rw [hb1];try rw [hb2];kernel_rfl) hk0
   ·refine sDE kk [bT,bT,bF,bT,bT,bT,bT,bT,bT,bT,bT,bT,bT,bF] [] [(79,vB (decide (hecklelaw03_Maker.At o≥(↑(List.length (List.map enc_u8 (hecklelaw03_Maker.L o))):Int))))] [(79,vB (decide (hecklelaw03_Maker.At o≥(↑(List.length (hecklelaw03_Maker.L o)):Int))))] (obC (gft hb1) (obC (gft hb1) (obC hb1 (obC (gft hb2) (obC (gft hb2) (obC (gft hb2) (obC (gft hb2) (obC (gft hb2) (obC (gft hb2) (obC (gft hb2) (obC (gft hb2) (obC (gft hb2) (obC (gft hb2) (obC hb2 obN)))))))))))))) ?_
    exact Sem.cast (by try rw [hb1];try rw [hb2];kernel_rfl) hk0
set_option maxHeartbeats 1000000 in
theorem W_heckleref03_Size (x:api_Rx) (res:Int)
 (h:(((api_Rx.Kind x == (2:Int))=true→(res=1))∧((api_Rx.Kind x == (2:Int))=false→(∃ J3:Bool→Prop,(∀ (t9:Bool),J3 t9→(((t9)=true→(∃ (Inv14:Int→Int→Prop) (mu15:Int→Int→Nat),Inv14 0 0∧(∀ (n:Int) (i:Int),Inv14 n i→(((decide (i < (↑(List.length (api_Rx.Kids x)):Int)))=true→((0:Int)≤i)∧i < ↑(List.length (api_Rx.Kids x))∧(∃ r0_2:Int,C_heckleref03_Size (gd (api_Rx.Kids x) i) r0_2∧(((decide (w64 (n+r0_2) > (1000000:Int)))=true→(res=((1000000:Int))))∧((decide (w64 (n+r0_2) > (1000000:Int)))=false→(Inv14 (w64 (n+r0_2)) (w64 (i+1))∧mu15 (w64 (n+r0_2)) (w64 (i+1)) < mu15 n i)))))∧((decide (i < (↑(List.length (api_Rx.Kids x)):Int)))=false→(∃ J22:Int→Prop,(∀ (n_1:Int),J22 n_1→(res=(if false=true then if (1000000:Int) > n_1 then (1000000:Int) else n_1 else if (1000000:Int) < n_1 then (1000000:Int) else n_1)))∧(((api_Rx.Kind x == (5:Int))=true→J22 (w64 (n * if (if false=true then if (if api_Rx.Hi x > api_Rx.Lo x then api_Rx.Hi x else api_Rx.Lo x) > (1000:Int) then if api_Rx.Hi x > api_Rx.Lo x then api_Rx.Hi x else api_Rx.Lo x else (1000:Int) else if (if api_Rx.Hi x > api_Rx.Lo x then api_Rx.Hi x else api_Rx.Lo x) < (1000:Int) then if api_Rx.Hi x > api_Rx.Lo x then api_Rx.Hi x else api_Rx.Lo x else (1000:Int)) > (1:Int) then if false=true then if (if api_Rx.Hi x > api_Rx.Lo x then api_Rx.Hi x else api_Rx.Lo x) > (1000:Int) then if api_Rx.Hi x > api_Rx.Lo x then api_Rx.Hi x else api_Rx.Lo x else (1000:Int) else if (if api_Rx.Hi x > api_Rx.Lo x then api_Rx.Hi x else api_Rx.Lo x) < (1000:Int) then if api_Rx.Hi x > api_Rx.Lo x then api_Rx.Hi x else api_Rx.Lo x else (1000:Int) else (1:Int))))∧((api_Rx.Kind x == (5:Int))=false→J22 n))))))))∧((t9)=false→(res=0))))∧(((api_Rx.Kind x == (3:Int))=true→J3 (api_Rx.Kind x == (3:Int)))∧((api_Rx.Kind x == (3:Int))=false→(((api_Rx.Kind x == (4:Int))=true→J3 (api_Rx.Kind x == (4:Int)))∧((api_Rx.Kind x == (4:Int))=false→J3 (api_Rx.Kind x == (5:Int)))))))))):C_heckleref03_Size x res:=by
 unfold C_heckleref03_Size
 have kk:=cfOk [] 44
 refine fD (x:=bodyOf Try.f26) kk Try.func26 ?_
 refine wkS [1] [(1,av_api_Rx x)] (by kernel_rfl) ?_
 refine sD kk [] [1] [(4,.ptr 8 0),(8,av_api_Rx x)] obN ?_
 refine qD ?_
 refine sD kk [] [] [(19,vi (api_Rx.Kind x))] obN ?_
 refine bD (id:=0) ?_
 refine sD kk [] [] [(22,vB (api_Rx.Kind x == (2:Int)))] obN ?_
 refine cD (t:=7) (b:=api_Rx.Kind x == (2:Int)) (fun hb0=>?_) (fun hb0=>?_)
 ·have h:=h.1 hb0
  refine sD kk [] [4,8,19,22] [(7,vi 1)] obN ?_
  refine tD ?_
  obtain he0:=h
  subst res
  exact (endD [] (vi 1) []).1
 ·have h:=h.2 hb0
  obtain ⟨J3,hJ3,h⟩:=h
  refine sjD (fun (q:Bool)=>J3 q) (fun (q:Bool)=>(fun (t9:Bool)=>([(4,.ptr 8 0),(8,av_api_Rx x),(28,vB t9)]:Sta)) q) ?_ ?_
  ·rintro t9 hj
   have h:=hJ3 t9 hj
   refine cD (t:=9) (b:=t9) (fun hb4=>?_) (fun hb4=>?_)
   ·have h:=h.1 hb4
    refine sD kk [] [28] [(10,vi 0)] obN ?_
    refine qD ?_
    refine sD kk [] [] [(13,vi 0)] obN ?_
    refine bD (id:=1) ?_
    obtain ⟨Inv14,mu15,h0Inv14,hInv14⟩:=h
    refine loD (fun (q:Int×Int)=>(fun (n:Int) (i:Int)=>([(4,.ptr 8 0),(8,av_api_Rx x),(10,vi n),(13,vi i)]:Sta)) q.1 q.2) (fun (q:Int×Int)=>Inv14 q.1 q.2) (fun (q:Int×Int)=>mu15 q.1 q.2) (0,0) [] h0Inv14 ?_
    rintro ⟨n,i⟩ hi
    have h:=hInv14 n i hi
    refine qD ?_
    refine sDE kk [] [] [(52,vB (decide (i < (↑(List.length (List.map enc_api_Rx (api_Rx.Kids x))):Int))))] [(52,vB (decide (i < (↑(List.length (api_Rx.Kids x)):Int))))] obN ?_
    refine cD (t:=17) (b:=decide (i < (↑(List.length (api_Rx.Kids x)):Int))) (fun hb16=>?_) (fun hb16=>?_)
    ·have h:=h.1 hb16
     refine Sem.skip' (by kernel_rfl) Wk.refl ?_
     show Sem _ _ _ _ _
     refine wkD [52] ?_
     refine qD ?_
     refine bD (id:=2) ?_
     obtain ⟨h17,h⟩:=h
     obtain ⟨h18,h⟩:=h
     obtain ⟨r0_2,hc19,h⟩:=h
     refine sD kk [.e (fv_api_Rx (gd (api_Rx.Kids x) i)),.c (vi r0_2) []] [] [(10,vi (w64 (n+r0_2)))] (obC h17 (obC (idx_ok enc_api_Rx (api_Rx.Kids x) i _ (enc_api_Rx_eq _) h17 h18) (obC hc19 obN))) ?_
     refine sD kk [] [] [(88,vB (decide (w64 (n+r0_2) > (1000000:Int))))] obN ?_
     refine cD (t:=29) (b:=decide (w64 (n+r0_2) > (1000000:Int))) (fun hb20=>?_) (fun hb20=>?_)
     ·have h:=h.1 hb20
      refine sD kk [] [4,8,10,13,88] [(7,vi ((1000000:Int)))] obN ?_
      refine tD ?_
      obtain he0:=h
      subst res
      exact (endD [] (vi ((1000000:Int))) []).1
     ·have h:=h.2 hb20
      refine Sem.skip' (by kernel_rfl) Wk.refl ?_
      show Sem _ _ _ _ _
      refine wkD [88] ?_
      refine rD kk [] [] [(13,vi (w64 (i+1)))] obN ?_
      exact lD ((w64 (n+r0_2)),(w64 (i+1))) [] h
    ·have h:=h.2 hb16
     refine xD (i:=1) ?_
     show Sem _ _ _ _ _
     refine wkD [13,52] ?_
     obtain ⟨J22,hJ22,h⟩:=h
     refine sjD (fun (q:Int)=>J22 q) (fun (q:Int)=>(fun (n_1:Int)=>([(10,vi n_1)]:Sta)) q) ?_ ?_
     ·rintro n_1 hj
      have h:=hJ22 n_1 hj
      refine sD kk [] [10] [(7,vi (if false=true then if (1000000:Int) > n_1 then (1000000:Int) else n_1 else if (1000000:Int) < n_1 then (1000000:Int) else n_1))] obN ?_
      refine tD ?_
      obtain he0:=h
      subst res
      exact (endD [] (vi (if false=true then if (1000000:Int) > n_1 then (1000000:Int) else n_1 else if (1000000:Int) < n_1 then (1000000:Int) else n_1)) []).1
     ·refine sD kk [] [] [(97,vB (api_Rx.Kind x == (5:Int)))] obN ?_
      refine cD (t:=32) (b:=api_Rx.Kind x == (5:Int)) (fun hb23=>?_) (fun hb23=>?_)
      ·have h:=h.1 hb23
       refine rDE kk [] [4,8,97] [(10,vi (w64 (n * if true=true then if (if false=true then if (if true=true then if api_Rx.Hi x > api_Rx.Lo x then api_Rx.Hi x else api_Rx.Lo x else if api_Rx.Hi x < api_Rx.Lo x then api_Rx.Hi x else api_Rx.Lo x) > (1000:Int) then if true=true then if api_Rx.Hi x > api_Rx.Lo x then api_Rx.Hi x else api_Rx.Lo x else if api_Rx.Hi x < api_Rx.Lo x then api_Rx.Hi x else api_Rx.Lo x else (1000:Int) else if (if true=true then if api_Rx.Hi x > api_Rx.Lo x then api_Rx.Hi x else api_Rx.Lo x else if api_Rx.Hi x < api_Rx.Lo x then api_Rx.Hi x else api_Rx.Lo x) < (1000:Int) then if true=true then if api_Rx.Hi x > api_Rx.Lo x then api_Rx.Hi x else api_Rx.Lo x else if api_Rx.Hi x < api_Rx.Lo x then api_Rx.Hi x else api_Rx.Lo x else (1000:Int)) > (1:Int) then if false=true then if (if true=true then if api_Rx.Hi x > api_Rx.Lo x then api_Rx.Hi x else api_Rx.Lo x else if api_Rx.Hi x < api_Rx.Lo x then api_Rx.Hi x else api_Rx.Lo x) > (1000:Int) then if true=true then if api_Rx.Hi x > api_Rx.Lo x then api_Rx.Hi x else api_Rx.Lo x else if api_Rx.Hi x < api_Rx.Lo x then api_Rx.Hi x else api_Rx.Lo x else (1000:Int) else if (if true=true then if api_Rx.Hi x > api_Rx.Lo x then api_Rx.Hi x else api_Rx.Lo x else if api_Rx.Hi x < api_Rx.Lo x then api_Rx.Hi x else api_Rx.Lo x) < (1000:Int) then if true=true then if api_Rx.Hi x > api_Rx.Lo x then api_Rx.Hi x else api_Rx.Lo x else if api_Rx.Hi x < api_Rx.Lo x then api_Rx.Hi x else api_Rx.Lo x else (1000:Int) else (1:Int) else if (if false=true then if (if true=true then if api_Rx.Hi x > api_Rx.Lo x then api_Rx.Hi x else api_Rx.Lo x else if api_Rx.Hi x < api_Rx.Lo x then api_Rx.Hi x else api_Rx.Lo x) > (1000:Int) then if true=true then if api_Rx.Hi x > api_Rx.Lo x then api_Rx.Hi x else api_Rx.Lo x else if api_Rx.Hi x < api_Rx.Lo x then api_Rx.Hi x else api_Rx.Lo x else (1000:Int) else if (if true=true then if api_Rx.Hi x > api_Rx.Lo x then api_Rx.Hi x else api_Rx.Lo x else if api_Rx.Hi x < api_Rx.Lo x then api_Rx.Hi x else api_Rx.Lo x) < (1000:Int) then if true=true then if api_Rx.Hi x > api_Rx.Lo x then api_Rx.Hi x else api_Rx.Lo x else if api_Rx.Hi x < api_Rx.Lo x then api_Rx.Hi x else api_Rx.Lo x else (1000:Int)) < (1:Int) then if false=true then if (if true=true then if api_Rx.Hi x > api_Rx.Lo x then api_Rx.Hi x else api_Rx.Lo x else if api_Rx.Hi x < api_Rx.Lo x then api_Rx.Hi x else api_Rx.Lo x) > (1000:Int) then if true=true then if api_Rx.Hi x > api_Rx.Lo x then api_Rx.Hi x else api_Rx.Lo x else if api_Rx.Hi x < api_Rx.Lo x then api_Rx.Hi x else api_Rx.Lo x else (1000:Int) else if (if true=true then if api_Rx.Hi x > api_Rx.Lo x then api_Rx.Hi x else api_Rx.Lo x else if api_Rx.Hi x < api_Rx.Lo x then api_Rx.Hi x else api_Rx.Lo x) < (1000:Int) then if true=true then if api_Rx.Hi x > api_Rx.Lo x then api_Rx.Hi x else api_Rx.Lo x else if api_Rx.Hi x < api_Rx.Lo x then api_Rx.Hi x else api_Rx.Lo x else (1000:Int) else (1:Int))))] [(10,vi (w64 (n * if (if false=true then if (if api_Rx.Hi x > api_Rx.Lo x then api_Rx.Hi x else api_Rx.Lo x) > (1000:Int) then if api_Rx.Hi x > api_Rx.Lo x then api_Rx.Hi x else api_Rx.Lo x else (1000:Int) else if (if api_Rx.Hi x > api_Rx.Lo x then api_Rx.Hi x else api_Rx.Lo x) < (1000:Int) then if api_Rx.Hi x > api_Rx.Lo x then api_Rx.Hi x else api_Rx.Lo x else (1000:Int)) > (1:Int) then if false=true then if (if api_Rx.Hi x > api_Rx.Lo x then api_Rx.Hi x else api_Rx.Lo x) > (1000:Int) then if api_Rx.Hi x > api_Rx.Lo x then api_Rx.Hi x else api_Rx.Lo x else (1000:Int) else if (if api_Rx.Hi x > api_Rx.Lo x then api_Rx.Hi x else api_Rx.Lo x) < (1000:Int) then if api_Rx.Hi x > api_Rx.Lo x then api_Rx.Hi x else api_Rx.Lo x else (1000:Int) else (1:Int))))] obN ?_
       exact jD (w64 (n * if (if false=true then if (if api_Rx.Hi x > api_Rx.Lo x then api_Rx.Hi x else api_Rx.Lo x) > (1000:Int) then if api_Rx.Hi x > api_Rx.Lo x then api_Rx.Hi x else api_Rx.Lo x else (1000:Int) else if (if api_Rx.Hi x > api_Rx.Lo x then api_Rx.Hi x else api_Rx.Lo x) < (1000:Int) then if api_Rx.Hi x > api_Rx.Lo x then api_Rx.Hi x else api_Rx.Lo x else (1000:Int)) > (1:Int) then if false=true then if (if api_Rx.Hi x > api_Rx.Lo x then api_Rx.Hi x else api_Rx.Lo x) > (1000:Int) then if api_Rx.Hi x > api_Rx.Lo x then api_Rx.Hi x else api_Rx.Lo x else (1000:Int) else if (if api_Rx.Hi x > api_Rx.Lo x then api_Rx.Hi x else api_Rx.Lo x) < (1000:Int) then if api_Rx.Hi x > api_Rx.Lo x then api_Rx.Hi x else api_Rx.Lo x else (1000:Int) else (1:Int))) [] h
      ·have h:=h.2 hb23
       refine Sem.skip' (by kernel_rfl) Wk.refl ?_
       exact jD n [] h
   ·have h:=h.2 hb4
    refine Sem.skip' (by kernel_rfl) Wk.refl ?_
    show Sem _ _ _ _ _
    refine wkD [4,8,28] ?_
    refine sD kk [] [] [(7,vi 0)] obN ?_
    refine tD ?_
    obtain he0:=h
    subst res
    exact (endD [] (vi 0) []).1
  ·refine sD kk [] [22] [(28,vB (api_Rx.Kind x == (3:Int)))] obN ?_
   refine cD (t:=9) (b:=api_Rx.Kind x == (3:Int)) (fun hb24=>?_) (fun hb24=>?_)
   ·have h:=h.1 hb24
    refine Sem.skip' (by kernel_rfl) Wk.refl ?_
    exact jD (api_Rx.Kind x == (3:Int)) [] h
   ·have h:=h.2 hb24
    refine sD kk [] [] [(28,vB (api_Rx.Kind x == (4:Int)))] obN ?_
    refine cD (t:=9) (b:=api_Rx.Kind x == (4:Int)) (fun hb25=>?_) (fun hb25=>?_)
    ·have h:=h.1 hb25
     refine Sem.skip' (by kernel_rfl) Wk.refl ?_
     exact jD (api_Rx.Kind x == (4:Int)) [] h
    ·have h:=h.2 hb25
     refine rD kk [] [19] [(28,vB (api_Rx.Kind x == (5:Int)))] obN ?_
     exact jD (api_Rx.Kind x == (5:Int)) [] h
set_option maxHeartbeats 1000000 in
theorem W_hecklelaw06_small (m:hecklelaw03_Maker) (res:api_Rx) (fin:hecklelaw03_Maker)
 (h:(∃ r0:api_Rx,∃ o:hecklelaw03_Maker,C_hecklelaw03_Maker_Rx 2 m r0 o∧(∃ r0_1:Int,C_heckleref03_Size r0 r0_1∧(((decide (r0_1 > (12:Int)))=true→(∃ r0_2:arr4_uint64,C_heckleref01_Of ((98:Int)) ((98:Int)) r0_2∧(res=({ Kind:=(2:Int),Set:=r0_2,Lo:=(0:Int),Hi:=(0:Int),Kids:=[] })∧fin=o)))∧((decide (r0_1 > (12:Int)))=false→(res=r0∧fin=o)))))):C_hecklelaw06_small m res fin:=by
 unfold C_hecklelaw06_small
 have kk:=cfOk [11] 12
 refine fD (x:=bodyOf Try.f56) kk Try.func56 ?_
 refine wkS [1,3] [(1,.ptr 3 0),(3,av_hecklelaw03_Maker m)] (by kernel_rfl) ?_
 refine sDE kk [] [] [(7,.ptr 14 0),(14,.agg [vi 0,vI .u64 0,vI .u64 0,vI .u64 0,vI .u64 0,vi 0,vi 0,.own 36 ([])])] [(7,.ptr 14 0),(14,.agg [vi 0,vI .u64 0,vI .u64 0,vI .u64 0,vI .u64 0,vi 0,vi 0,oL 36 enc_api_Rx ([])])] obN ?_
 obtain ⟨r0,o,hc0,h⟩:=h
 refine sD kk [.c (ao_api_Rx r0) [av_hecklelaw03_Maker o]] [1] [(3,av_hecklelaw03_Maker o),(10,.ptr 20 0),(20,ao_api_Rx r0)] (obC hc0 obN) ?_
 refine qD ?_
 obtain ⟨r0_1,hc1,h⟩:=h
 refine sD kk [.c (vi r0_1) []] [] [(20,av_api_Rx r0),(25,vB (decide (r0_1 > (12:Int))))] (obC (Eq.mp (by unfold C_heckleref03_Size;(try simp only [List.drop_zero,List.take_length]);first | done | simp only [nm,enq]:C_heckleref03_Size r0 r0_1=CallE Try.prog 26 [.agg [vi (api_Rx.Kind r0),vI .u64 (arr4_uint64.e0 (api_Rx.Set r0)),vI .u64 (arr4_uint64.e1 (api_Rx.Set r0)),vI .u64 (arr4_uint64.e2 (api_Rx.Set r0)),vI .u64 (arr4_uint64.e3 (api_Rx.Set r0)),vi (api_Rx.Lo r0),vi (api_Rx.Hi r0),.f (FV.sl (List.take (List.length (List.map enc_api_Rx (api_Rx.Kids r0))) (List.drop (0:Nat) (List.map enc_api_Rx (api_Rx.Kids r0)))))]] [] (vi r0_1) []) hc1) obN) ?_
 refine cD (t:=8) (b:=decide (r0_1 > (12:Int))) (fun hb2=>?_) (fun hb2=>?_)
 ·have h:=h.1 hb2
  obtain ⟨r0_2,hc3,h⟩:=h
  refine sDE kk [.c (av_arr4_uint64 r0_2) []] [10,20,25] [(14,.agg [vi 2,vI .u64 (arr4_uint64.e0 r0_2),vI .u64 (arr4_uint64.e1 r0_2),vI .u64 (arr4_uint64.e2 r0_2),vI .u64 (arr4_uint64.e3 r0_2),vi 0,vi 0,.own 36 ([])])] [(14,.agg [vi 2,vI .u64 (arr4_uint64.e0 r0_2),vI .u64 (arr4_uint64.e1 r0_2),vI .u64 (arr4_uint64.e2 r0_2),vI .u64 (arr4_uint64.e3 r0_2),vi 0,vi 0,oL 36 enc_api_Rx ([])])] (obC hc3 obN) ?_
  refine tD ?_
  obtain ⟨he0,he1⟩:=h
  subst res fin
  exact (endD [(14,7)] (.agg [vi 2,vI .u64 (arr4_uint64.e0 r0_2),vI .u64 (arr4_uint64.e1 r0_2),vI .u64 (arr4_uint64.e2 r0_2),vI .u64 (arr4_uint64.e3 r0_2),vi 0,vi 0,vL enc_api_Rx ([])]) [av_hecklelaw03_Maker o]).1
 ·have h:=h.2 hb2
  refine Sem.skip' (by kernel_rfl) Wk.refl ?_
  show Sem _ _ _ _ _
  refine wkD [25] ?_
  refine sD kk [] [10,20] [(14,av_api_Rx r0)] obN ?_
  refine tD ?_
  obtain ⟨he0,he1⟩:=h
  subst res fin
  exact (endD [] (av_api_Rx r0) [av_hecklelaw03_Maker o]).1
set_option maxHeartbeats 1000000 in
theorem W_hecklelaw06_rule (conds:Int) (plain:Bool) (m:hecklelaw03_Maker) (res:api_Rule) (fin:hecklelaw03_Maker)
 (h:(∃ r0:Int,∃ o:hecklelaw03_Maker,C_hecklelaw03_Maker_Pick 3 m r0 o∧(∃ J3:List Int→Int→Int→Prop,(∀ (o0_L:List Int) (o0_At:Int) (r_To:Int),J3 o0_L o0_At r_To→(∃ J31:List Int→Int→List Int→Bool→Prop,(∀ (o0_L_5:List Int) (o0_At_5:Int) (r_Conds_4:List Int) (r_All:Bool),J31 o0_L_5 o0_At_5 r_Conds_4 r_All→(∃ r0_9:Int,∃ o_9:hecklelaw03_Maker,C_hecklelaw03_Maker_Pick ((12:Int)) ({ L:=o0_L_5,At:=o0_At_5 }) r0_9 o_9∧(((r0_9 == (11:Int))=true→(res=({ Conds:=r_Conds_4,All:=r_All,Bol:=false,Rx:={ Kind:=(0:Int),Set:={ e0:=(0:Int),e1:=(0:Int),e2:=(0:Int),e3:=(0:Int) },Lo:=(0:Int),Hi:=(0:Int),Kids:=[] },Trail:={ Kind:=(0:Int),Set:={ e0:=(0:Int),e1:=(0:Int),e2:=(0:Int),e3:=(0:Int) },Lo:=(0:Int),Hi:=(0:Int),Kids:=[] },Eof:=true,Act:=w64 ((1:Int)+r0),To:=r_To })∧fin=o_9))∧((r0_9 == (11:Int))=false→(∃ r0_10:api_Rx,∃ o_10:hecklelaw03_Maker,C_hecklelaw06_small o_9 r0_10 o_10∧(∃ J40:List Int→Int→Bool→Int→Int→Int→Int→Int→Int→Int→List api_Rx→Prop,(∀ (o0_L_6:List Int) (o0_At_6:Int) (r_Bol:Bool) (r_Trail_Kind:Int) (r_Trail_Set_e0:Int) (r_Trail_Set_e1:Int) (r_Trail_Set_e2:Int) (r_Trail_Set_e3:Int) (r_Trail_Lo:Int) (r_Trail_Hi:Int) (r_Trail_Kids:List api_Rx),J40 o0_L_6 o0_At_6 r_Bol r_Trail_Kind r_Trail_Set_e0 r_Trail_Set_e1 r_Trail_Set_e2 r_Trail_Set_e3 r_Trail_Lo r_Trail_Hi r_Trail_Kids→(res=({ Conds:=r_Conds_4,All:=r_All,Bol:=r_Bol,Rx:=r0_10,Trail:={ Kind:=r_Trail_Kind,Set:={ e0:=r_Trail_Set_e0,e1:=r_Trail_Set_e1,e2:=r_Trail_Set_e2,e3:=r_Trail_Set_e3 },Lo:=r_Trail_Lo,Hi:=r_Trail_Hi,Kids:=r_Trail_Kids },Eof:=false,Act:=w64 ((1:Int)+r0),To:=r_To })∧fin=({ L:=o0_L_6,At:=o0_At_6 })))∧(((!plain)=true→(∃ r0_14:Int,∃ o_14:hecklelaw03_Maker,C_hecklelaw03_Maker_Pick ((6:Int)) o_10 r0_14 o_14∧(∃ r0_15:Int,∃ o_15:hecklelaw03_Maker,C_hecklelaw03_Maker_Pick 5 o_14 r0_15 o_15∧(((r0_15 == (4:Int))=true→(∃ r0_16:api_Rx,∃ o_16:hecklelaw03_Maker,C_hecklelaw06_small o_15 r0_16 o_16∧J40 (hecklelaw03_Maker.L o_16) (hecklelaw03_Maker.At o_16) (r0_14 == (5:Int)) (api_Rx.Kind r0_16) (arr4_uint64.e0 (api_Rx.Set r0_16)) (arr4_uint64.e1 (api_Rx.Set r0_16)) (arr4_uint64.e2 (api_Rx.Set r0_16)) (arr4_uint64.e3 (api_Rx.Set r0_16)) (api_Rx.Lo r0_16) (api_Rx.Hi r0_16) (api_Rx.Kids r0_16)))∧((r0_15 == (4:Int))=false→J40 (hecklelaw03_Maker.L o_15) (hecklelaw03_Maker.At o_15) (r0_14 == (5:Int)) 0 0 0 0 0 0 0 ([]))))))∧((!plain)=false→J40 (hecklelaw03_Maker.L o_10) (hecklelaw03_Maker.At o_10) false 0 0 0 0 0 0 0 ([])))))))))∧(∃ r0_17:Int,∃ o_17:hecklelaw03_Maker,C_hecklelaw03_Maker_Pick 4 ({ L:=o0_L,At:=o0_At }) r0_17 o_17∧(((r0_17 == 0)=true→J31 (hecklelaw03_Maker.L o_17) (hecklelaw03_Maker.At o_17) ([]) true)∧((r0_17 == 0)=false→(((r0_17 == 1)=true→(∃ (Inv63:List Int→Int→List Int→Int→Prop) (mu64:List Int→Int→List Int→Int→Nat),Inv63 (hecklelaw03_Maker.L o_17) (hecklelaw03_Maker.At o_17) ([]) 0∧(∀ (o0_L_8:List Int) (o0_At_8:Int) (r_Conds_6:List Int) (i_1:Int),Inv63 o0_L_8 o0_At_8 r_Conds_6 i_1→(((decide (i_1 < conds))=true→(∃ J69:List Int→Int→List Int→Prop,(∀ (o0_L_10:List Int) (o0_At_10:Int) (r_Conds_8:List Int),J69 o0_L_10 o0_At_10 r_Conds_8→(Inv63 o0_L_10 o0_At_10 r_Conds_8 (w64 (i_1+1))∧mu64 o0_L_10 o0_At_10 r_Conds_8 (w64 (i_1+1)) < mu64 o0_L_8 o0_At_8 r_Conds_6 i_1))∧(∃ r0_23:Int,∃ o_23:hecklelaw03_Maker,C_hecklelaw03_Maker_Pick 2 ({ L:=o0_L_8,At:=o0_At_8 }) r0_23 o_23∧(((r0_23 == 1)=true→((List.length r_Conds_6+(1:Nat)) * (8:Nat)≤(2:Nat) ^ (47:Nat))∧J69 (hecklelaw03_Maker.L o_23) (hecklelaw03_Maker.At o_23) (r_Conds_6++[i_1]))∧((r0_23 == 1)=false→J69 (hecklelaw03_Maker.L o_23) (hecklelaw03_Maker.At o_23) r_Conds_6)))))∧((decide (i_1 < conds))=false→J31 o0_L_8 o0_At_8 r_Conds_6 false)))))∧((r0_17 == 1)=false→J31 (hecklelaw03_Maker.L o_17) (hecklelaw03_Maker.At o_17) ([]) false)))))))∧(((w64 ((1:Int)+r0) == (3:Int))=true→(∃ r0_24:Int,∃ o_24:hecklelaw03_Maker,C_hecklelaw03_Maker_Pick conds o r0_24 o_24∧J3 (hecklelaw03_Maker.L o_24) (hecklelaw03_Maker.At o_24) r0_24))∧((w64 ((1:Int)+r0) == (3:Int))=false→J3 (hecklelaw03_Maker.L o) (hecklelaw03_Maker.At o) 0))))):C_hecklelaw06_rule conds plain m res fin:=by
 unfold C_hecklelaw06_rule
 have kk:=cfOk [45,61] 62
 refine fD (x:=bodyOf Try.f28) kk Try.func28 ?_
 refine wkS [1,3,4,7] [(1,.ptr 3 0),(3,av_hecklelaw03_Maker m),(4,vi conds),(7,vB plain)] (by kernel_rfl) ?_
 refine sDE kk [] [] [(19,.ptr 38 0),(38,.agg [.own 3 ([]),vB false,vB false,vi 0,vI .u64 0,vI .u64 0,vI .u64 0,vI .u64 0,vi 0,vi 0,.own 36 ([]),vi 0,vI .u64 0,vI .u64 0,vI .u64 0,vI .u64 0,vi 0,vi 0,.own 36 ([]),vB false,vi 0,vi 0])] [(19,.ptr 38 0),(38,.agg [oL 3 enc_i64 ([]),vB false,vB false,vi 0,vI .u64 0,vI .u64 0,vI .u64 0,vI .u64 0,vi 0,vi 0,oL 36 enc_api_Rx ([]),vi 0,vI .u64 0,vI .u64 0,vI .u64 0,vI .u64 0,vi 0,vi 0,oL 36 enc_api_Rx ([]),vB false,vi 0,vi 0])] obN ?_
 obtain ⟨r0,o,hc0,h⟩:=h
 refine sDE kk [.c (vi r0) [av_hecklelaw03_Maker o]] [] [(3,av_hecklelaw03_Maker o),(22,.ptr 44 0),(44,.agg [.own 3 ([]),vB false,vB false,vi 0,vI .u64 0,vI .u64 0,vI .u64 0,vI .u64 0,vi 0,vi 0,.own 36 ([]),vi 0,vI .u64 0,vI .u64 0,vI .u64 0,vI .u64 0,vi 0,vi 0,.own 36 ([]),vB false,vi (w64 ((1:Int)+r0)),vi 0])] [(3,av_hecklelaw03_Maker o),(22,.ptr 44 0),(44,.agg [oL 3 enc_i64 ([]),vB false,vB false,vi 0,vI .u64 0,vI .u64 0,vI .u64 0,vI .u64 0,vi 0,vi 0,oL 36 enc_api_Rx ([]),vi 0,vI .u64 0,vI .u64 0,vI .u64 0,vI .u64 0,vi 0,vi 0,oL 36 enc_api_Rx ([]),vB false,vi (w64 ((1:Int)+r0)),vi 0])] (obC hc0 obN) ?_
 obtain ⟨J3,hJ3,h⟩:=h
 refine sjD (fun (q:List Int×Int×Int)=>J3 q.1 q.2.1 q.2.2) (fun (q:List Int×Int×Int)=>(fun (o0_L:List Int) (o0_At:Int) (r_To:Int)=>([(1,.ptr 3 0),(3,.agg [vL enc_u8 o0_L,vi o0_At]),(4,vi conds),(7,vB plain),(19,.ptr 38 0),(22,.ptr 44 0),(38,.agg [oL 3 enc_i64 ([]),vB false,vB false,vi 0,vI .u64 0,vI .u64 0,vI .u64 0,vI .u64 0,vi 0,vi 0,oL 36 enc_api_Rx ([]),vi 0,vI .u64 0,vI .u64 0,vI .u64 0,vI .u64 0,vi 0,vi 0,oL 36 enc_api_Rx ([]),vB false,vi 0,vi 0]),(44,.agg [oL 3 enc_i64 ([]),vB false,vB false,vi 0,vI .u64 0,vI .u64 0,vI .u64 0,vI .u64 0,vi 0,vi 0,oL 36 enc_api_Rx ([]),vi 0,vI .u64 0,vI .u64 0,vI .u64 0,vI .u64 0,vi 0,vi 0,oL 36 enc_api_Rx ([]),vB false,vi (w64 ((1:Int)+r0)),vi r_To])]:Sta)) q.1 q.2.1 q.2.2) ?_ ?_
 ·rintro ⟨o0_L,o0_At,r_To⟩ hj
  have h:=hJ3 o0_L o0_At r_To hj
  obtain ⟨J31,hJ31,h⟩:=h
  refine sjD (fun (q:List Int×Int×List Int×Bool)=>J31 q.1 q.2.1 q.2.2.1 q.2.2.2) (fun (q:List Int×Int×List Int×Bool)=>(fun (o0_L_5:List Int) (o0_At_5:Int) (r_Conds_4:List Int) (r_All:Bool)=>([(1,.ptr 3 0),(3,.agg [vL enc_u8 o0_L_5,vi o0_At_5]),(7,vB plain),(19,.ptr 38 0),(22,.ptr 44 0),(38,.agg [oL 3 enc_i64 ([]),vB false,vB false,vi 0,vI .u64 0,vI .u64 0,vI .u64 0,vI .u64 0,vi 0,vi 0,oL 36 enc_api_Rx ([]),vi 0,vI .u64 0,vI .u64 0,vI .u64 0,vI .u64 0,vi 0,vi 0,oL 36 enc_api_Rx ([]),vB false,vi 0,vi 0]),(44,.agg [oL 3 enc_i64 r_Conds_4,vB r_All,vB false,vi 0,vI .u64 0,vI .u64 0,vI .u64 0,vI .u64 0,vi 0,vi 0,oL 36 enc_api_Rx ([]),vi 0,vI .u64 0,vI .u64 0,vI .u64 0,vI .u64 0,vi 0,vi 0,oL 36 enc_api_Rx ([]),vB false,vi (w64 ((1:Int)+r0)),vi r_To])]:Sta)) q.1 q.2.1 q.2.2.1 q.2.2.2) ?_ ?_
  ·rintro ⟨o0_L_5,o0_At_5,r_Conds_4,r_All⟩ hj
   have h:=hJ31 o0_L_5 o0_At_5 r_Conds_4 r_All hj
   refine qD ?_
   obtain ⟨r0_9,o_9,hc32,h⟩:=h
   refine sD kk [.c (vi r0_9) [av_hecklelaw03_Maker o_9]] [] [(3,av_hecklelaw03_Maker o_9),(130,vB (r0_9 == (11:Int)))] (obC hc32 obN) ?_
   refine cD (t:=43) (b:=r0_9 == (11:Int)) (fun hb33=>?_) (fun hb33=>?_)
   ·have h:=h.1 hb33
    refine sD kk [] [1,7,130] [(44,.agg [oL 3 enc_i64 r_Conds_4,vB r_All,vB false,vi 0,vI .u64 0,vI .u64 0,vI .u64 0,vI .u64 0,vi 0,vi 0,oL 36 enc_api_Rx ([]),vi 0,vI .u64 0,vI .u64 0,vI .u64 0,vI .u64 0,vi 0,vi 0,oL 36 enc_api_Rx ([]),vB true,vi (w64 ((1:Int)+r0)),vi r_To])] obN ?_
    refine sD kk [] [22,44] [(38,.agg [oL 3 enc_i64 r_Conds_4,vB r_All,vB false,vi 0,vI .u64 0,vI .u64 0,vI .u64 0,vI .u64 0,vi 0,vi 0,oL 36 enc_api_Rx ([]),vi 0,vI .u64 0,vI .u64 0,vI .u64 0,vI .u64 0,vi 0,vi 0,oL 36 enc_api_Rx ([]),vB true,vi (w64 ((1:Int)+r0)),vi r_To])] (obC (show (0:Nat)=(0:Nat)∧List.length (List.map enc_i64 r_Conds_4)=List.length (List.map enc_i64 r_Conds_4) from ⟨rfl,rfl⟩) (obC (show (0:Nat)=(0:Nat)∧(0:Nat)=List.length (List.map enc_api_Rx []) from by first | decide | rfl | trivial) (obC (show (0:Nat)=(0:Nat)∧(0:Nat)=List.length (List.map enc_api_Rx []) from by first | decide | rfl | trivial) obN))) ?_
    refine tD ?_
    obtain ⟨he0,he1⟩:=h
    subst res fin
    exact (endD [(38,10),(38,18)] (.agg [oL 3 enc_i64 r_Conds_4,vB r_All,vB false,vi 0,vI .u64 0,vI .u64 0,vI .u64 0,vI .u64 0,vi 0,vi 0,vL enc_api_Rx ([]),vi 0,vI .u64 0,vI .u64 0,vI .u64 0,vI .u64 0,vi 0,vi 0,vL enc_api_Rx ([]),vB true,vi (w64 ((1:Int)+r0)),vi r_To]) [av_hecklelaw03_Maker o_9]).1
   ·have h:=h.2 hb33
    refine Sem.skip' (by kernel_rfl) Wk.refl ?_
    show Sem _ _ _ _ _
    refine wkD [130] ?_
    obtain ⟨r0_10,o_10,hc34,h⟩:=h
    refine sD kk [.c (av_api_Rx r0_10) [av_hecklelaw03_Maker o_10]] [] [(3,av_hecklelaw03_Maker o_10),(44,.agg [oL 3 enc_i64 r_Conds_4,vB r_All,vB false,vi (api_Rx.Kind r0_10),vI .u64 (arr4_uint64.e0 (api_Rx.Set r0_10)),vI .u64 (arr4_uint64.e1 (api_Rx.Set r0_10)),vI .u64 (arr4_uint64.e2 (api_Rx.Set r0_10)),vI .u64 (arr4_uint64.e3 (api_Rx.Set r0_10)),vi (api_Rx.Lo r0_10),vi (api_Rx.Hi r0_10),vL enc_api_Rx (api_Rx.Kids r0_10),vi 0,vI .u64 0,vI .u64 0,vI .u64 0,vI .u64 0,vi 0,vi 0,oL 36 enc_api_Rx ([]),vB false,vi (w64 ((1:Int)+r0)),vi r_To])] (obC hc34 obN) ?_
    obtain ⟨J40,hJ40,h⟩:=h
    refine sjD (fun (q:List Int×Int×Bool×Int×Int×Int×Int×Int×Int×Int×List api_Rx)=>J40 q.1 q.2.1 q.2.2.1 q.2.2.2.1 q.2.2.2.2.1 q.2.2.2.2.2.1 q.2.2.2.2.2.2.1 q.2.2.2.2.2.2.2.1 q.2.2.2.2.2.2.2.2.1 q.2.2.2.2.2.2.2.2.2.1 q.2.2.2.2.2.2.2.2.2.2) (fun (q:List Int×Int×Bool×Int×Int×Int×Int×Int×Int×Int×List api_Rx)=>(fun (o0_L_6:List Int) (o0_At_6:Int) (r_Bol:Bool) (r_Trail_Kind:Int) (r_Trail_Set_e0:Int) (r_Trail_Set_e1:Int) (r_Trail_Set_e2:Int) (r_Trail_Set_e3:Int) (r_Trail_Lo:Int) (r_Trail_Hi:Int) (r_Trail_Kids:List api_Rx)=>([(3,.agg [vL enc_u8 o0_L_6,vi o0_At_6]),(19,.ptr 38 0),(22,.ptr 44 0),(38,.agg [oL 3 enc_i64 ([]),vB false,vB false,vi 0,vI .u64 0,vI .u64 0,vI .u64 0,vI .u64 0,vi 0,vi 0,oL 36 enc_api_Rx ([]),vi 0,vI .u64 0,vI .u64 0,vI .u64 0,vI .u64 0,vi 0,vi 0,oL 36 enc_api_Rx ([]),vB false,vi 0,vi 0]),(44,.agg [oL 3 enc_i64 r_Conds_4,vB r_All,vB r_Bol,vi (api_Rx.Kind r0_10),vI .u64 (arr4_uint64.e0 (api_Rx.Set r0_10)),vI .u64 (arr4_uint64.e1 (api_Rx.Set r0_10)),vI .u64 (arr4_uint64.e2 (api_Rx.Set r0_10)),vI .u64 (arr4_uint64.e3 (api_Rx.Set r0_10)),vi (api_Rx.Lo r0_10),vi (api_Rx.Hi r0_10),vL enc_api_Rx (api_Rx.Kids r0_10),vi r_Trail_Kind,vI .u64 r_Trail_Set_e0,vI .u64 r_Trail_Set_e1,vI .u64 r_Trail_Set_e2,vI .u64 r_Trail_Set_e3,vi r_Trail_Lo,vi r_Trail_Hi,vL enc_api_Rx r_Trail_Kids,vB false,vi (w64 ((1:Int)+r0)),vi r_To])]:Sta)) q.1 q.2.1 q.2.2.1 q.2.2.2.1 q.2.2.2.2.1 q.2.2.2.2.2.1 q.2.2.2.2.2.2.1 q.2.2.2.2.2.2.2.1 q.2.2.2.2.2.2.2.2.1 q.2.2.2.2.2.2.2.2.2.1 q.2.2.2.2.2.2.2.2.2.2) ?_ ?_
    ·rintro ⟨o0_L_6,o0_At_6,r_Bol,r_Trail_Kind,r_Trail_Set_e0,r_Trail_Set_e1,r_Trail_Set_e2,r_Trail_Set_e3,r_Trail_Lo,r_Trail_Hi,r_Trail_Kids⟩ hj
     have h:=hJ40 o0_L_6 o0_At_6 r_Bol r_Trail_Kind r_Trail_Set_e0 r_Trail_Set_e1 r_Trail_Set_e2 r_Trail_Set_e3 r_Trail_Lo r_Trail_Hi r_Trail_Kids hj
     refine sD kk [] [22,44] [(38,.agg [oL 3 enc_i64 r_Conds_4,vB r_All,vB r_Bol,vi (api_Rx.Kind r0_10),vI .u64 (arr4_uint64.e0 (api_Rx.Set r0_10)),vI .u64 (arr4_uint64.e1 (api_Rx.Set r0_10)),vI .u64 (arr4_uint64.e2 (api_Rx.Set r0_10)),vI .u64 (arr4_uint64.e3 (api_Rx.Set r0_10)),vi (api_Rx.Lo r0_10),vi (api_Rx.Hi r0_10),vL enc_api_Rx (api_Rx.Kids r0_10),vi r_Trail_Kind,vI .u64 r_Trail_Set_e0,vI .u64 r_Trail_Set_e1,vI .u64 r_Trail_Set_e2,vI .u64 r_Trail_Set_e3,vi r_Trail_Lo,vi r_Trail_Hi,vL enc_api_Rx r_Trail_Kids,vB false,vi (w64 ((1:Int)+r0)),vi r_To])] (obC (show (0:Nat)=(0:Nat)∧List.length (List.map enc_i64 r_Conds_4)=List.length (List.map enc_i64 r_Conds_4) from ⟨rfl,rfl⟩) obN) ?_
     refine tD ?_
     obtain ⟨he0,he1⟩:=h
     subst res fin
     exact (endD [] (.agg [oL 3 enc_i64 r_Conds_4,vB r_All,vB r_Bol,vi (api_Rx.Kind r0_10),vI .u64 (arr4_uint64.e0 (api_Rx.Set r0_10)),vI .u64 (arr4_uint64.e1 (api_Rx.Set r0_10)),vI .u64 (arr4_uint64.e2 (api_Rx.Set r0_10)),vI .u64 (arr4_uint64.e3 (api_Rx.Set r0_10)),vi (api_Rx.Lo r0_10),vi (api_Rx.Hi r0_10),vL enc_api_Rx (api_Rx.Kids r0_10),vi r_Trail_Kind,vI .u64 r_Trail_Set_e0,vI .u64 r_Trail_Set_e1,vI .u64 r_Trail_Set_e2,vI .u64 r_Trail_Set_e3,vi r_Trail_Lo,vi r_Trail_Hi,vL enc_api_Rx r_Trail_Kids,vB false,vi (w64 ((1:Int)+r0)),vi r_To]) [.agg [vL enc_u8 o0_L_6,vi o0_At_6]]).1
    ·refine sD kk [] [7] [(151,vB (!plain))] obN ?_
     refine cD (t:=50) (b:=!plain) (fun hb41=>?_) (fun hb41=>?_)
     ·have h:=h.1 hb41
      obtain ⟨r0_14,o_14,hc42,h⟩:=h
      refine sD kk [.c (vi r0_14) [av_hecklelaw03_Maker o_14]] [151] [(3,av_hecklelaw03_Maker o_14),(44,.agg [oL 3 enc_i64 r_Conds_4,vB r_All,vB (r0_14 == (5:Int)),vi (api_Rx.Kind r0_10),vI .u64 (arr4_uint64.e0 (api_Rx.Set r0_10)),vI .u64 (arr4_uint64.e1 (api_Rx.Set r0_10)),vI .u64 (arr4_uint64.e2 (api_Rx.Set r0_10)),vI .u64 (arr4_uint64.e3 (api_Rx.Set r0_10)),vi (api_Rx.Lo r0_10),vi (api_Rx.Hi r0_10),vL enc_api_Rx (api_Rx.Kids r0_10),vi 0,vI .u64 0,vI .u64 0,vI .u64 0,vI .u64 0,vi 0,vi 0,oL 36 enc_api_Rx ([]),vB false,vi (w64 ((1:Int)+r0)),vi r_To])] (obC hc42 obN) ?_
      obtain ⟨r0_15,o_15,hc43,h⟩:=h
      refine sD kk [.c (vi r0_15) [av_hecklelaw03_Maker o_15]] [] [(3,av_hecklelaw03_Maker o_15),(172,vB (r0_15 == (4:Int)))] (obC hc43 obN) ?_
      refine cD (t:=57) (b:=r0_15 == (4:Int)) (fun hb44=>?_) (fun hb44=>?_)
      ·have h:=h.1 hb44
       obtain ⟨r0_16,o_16,hc45,h⟩:=h
       refine rD kk [.c (av_api_Rx r0_16) [av_hecklelaw03_Maker o_16]] [1,172] [(3,av_hecklelaw03_Maker o_16),(44,.agg [oL 3 enc_i64 r_Conds_4,vB r_All,vB (r0_14 == (5:Int)),vi (api_Rx.Kind r0_10),vI .u64 (arr4_uint64.e0 (api_Rx.Set r0_10)),vI .u64 (arr4_uint64.e1 (api_Rx.Set r0_10)),vI .u64 (arr4_uint64.e2 (api_Rx.Set r0_10)),vI .u64 (arr4_uint64.e3 (api_Rx.Set r0_10)),vi (api_Rx.Lo r0_10),vi (api_Rx.Hi r0_10),vL enc_api_Rx (api_Rx.Kids r0_10),vi (api_Rx.Kind r0_16),vI .u64 (arr4_uint64.e0 (api_Rx.Set r0_16)),vI .u64 (arr4_uint64.e1 (api_Rx.Set r0_16)),vI .u64 (arr4_uint64.e2 (api_Rx.Set r0_16)),vI .u64 (arr4_uint64.e3 (api_Rx.Set r0_16)),vi (api_Rx.Lo r0_16),vi (api_Rx.Hi r0_16),vL enc_api_Rx (api_Rx.Kids r0_16),vB false,vi (w64 ((1:Int)+r0)),vi r_To])] (obC hc45 obN) ?_
       exact jD ((hecklelaw03_Maker.L o_16),(hecklelaw03_Maker.At o_16),(r0_14 == (5:Int)),(api_Rx.Kind r0_16),(arr4_uint64.e0 (api_Rx.Set r0_16)),(arr4_uint64.e1 (api_Rx.Set r0_16)),(arr4_uint64.e2 (api_Rx.Set r0_16)),(arr4_uint64.e3 (api_Rx.Set r0_16)),(api_Rx.Lo r0_16),(api_Rx.Hi r0_16),(api_Rx.Kids r0_16)) [] h
      ·have h:=h.2 hb44
       refine Sem.skip' (by kernel_rfl) Wk.refl ?_
       exact jD ((hecklelaw03_Maker.L o_15),(hecklelaw03_Maker.At o_15),(r0_14 == (5:Int)),0,0,0,0,0,0,0,([])) [(44,18)] h
     ·have h:=h.2 hb41
      refine Sem.skip' (by kernel_rfl) Wk.refl ?_
      exact jD ((hecklelaw03_Maker.L o_10),(hecklelaw03_Maker.At o_10),false,0,0,0,0,0,0,0,([])) [(44,18)] h
  ·obtain ⟨r0_17,o_17,hc46,h⟩:=h
   refine sD kk [.c (vi r0_17) [av_hecklelaw03_Maker o_17]] [] [(3,av_hecklelaw03_Maker o_17),(64,vi r0_17)] (obC hc46 obN) ?_
   refine bD (id:=0) ?_
   refine sD kk [] [] [(67,vB (r0_17 == 0))] obN ?_
   refine cD (t:=22) (b:=r0_17 == 0) (fun hb47=>?_) (fun hb47=>?_)
   ·have h:=h.1 hb47
    refine rD kk [] [4,64,67] [(44,.agg [oL 3 enc_i64 ([]),vB true,vB false,vi 0,vI .u64 0,vI .u64 0,vI .u64 0,vI .u64 0,vi 0,vi 0,oL 36 enc_api_Rx ([]),vi 0,vI .u64 0,vI .u64 0,vI .u64 0,vI .u64 0,vi 0,vi 0,oL 36 enc_api_Rx ([]),vB false,vi (w64 ((1:Int)+r0)),vi r_To])] obN ?_
    exact jD ((hecklelaw03_Maker.L o_17),(hecklelaw03_Maker.At o_17),([]),true) [] h
   ·have h:=h.2 hb47
    refine sD kk [] [64,67] [(76,vB (r0_17 == 1))] obN ?_
    refine cD (t:=25) (b:=r0_17 == 1) (fun hb48=>?_) (fun hb48=>?_)
    ·have h:=h.1 hb48
     refine sD kk [] [76] [(25,vi 0)] obN ?_
     refine bD (id:=1) ?_
     obtain ⟨Inv63,mu64,h0Inv63,hInv63⟩:=h
     refine loD (fun (q:List Int×Int×List Int×Int)=>(fun (o0_L_8:List Int) (o0_At_8:Int) (r_Conds_6:List Int) (i_1:Int)=>([(1,.ptr 3 0),(3,.agg [vL enc_u8 o0_L_8,vi o0_At_8]),(4,vi conds),(7,vB plain),(19,.ptr 38 0),(22,.ptr 44 0),(25,vi i_1),(38,.agg [oL 3 enc_i64 ([]),vB false,vB false,vi 0,vI .u64 0,vI .u64 0,vI .u64 0,vI .u64 0,vi 0,vi 0,oL 36 enc_api_Rx ([]),vi 0,vI .u64 0,vI .u64 0,vI .u64 0,vI .u64 0,vi 0,vi 0,oL 36 enc_api_Rx ([]),vB false,vi 0,vi 0]),(44,.agg [oL 3 enc_i64 r_Conds_6,vB false,vB false,vi 0,vI .u64 0,vI .u64 0,vI .u64 0,vI .u64 0,vi 0,vi 0,oL 36 enc_api_Rx ([]),vi 0,vI .u64 0,vI .u64 0,vI .u64 0,vI .u64 0,vi 0,vi 0,oL 36 enc_api_Rx ([]),vB false,vi (w64 ((1:Int)+r0)),vi r_To])]:Sta)) q.1 q.2.1 q.2.2.1 q.2.2.2) (fun (q:List Int×Int×List Int×Int)=>Inv63 q.1 q.2.1 q.2.2.1 q.2.2.2) (fun (q:List Int×Int×List Int×Int)=>mu64 q.1 q.2.1 q.2.2.1 q.2.2.2) ((hecklelaw03_Maker.L o_17),(hecklelaw03_Maker.At o_17),([]),0) [] h0Inv63 ?_
     rintro ⟨o0_L_8,o0_At_8,r_Conds_6,i_1⟩ hi
     have h:=hInv63 o0_L_8 o0_At_8 r_Conds_6 i_1 hi
     refine qD ?_
     refine sD kk [] [] [(88,vB (decide (i_1 < conds)))] obN ?_
     refine cD (t:=29) (b:=decide (i_1 < conds)) (fun hb65=>?_) (fun hb65=>?_)
     ·have h:=h.1 hb65
      refine Sem.skip' (by kernel_rfl) Wk.refl ?_
      show Sem _ _ _ _ _
      refine wkD [88] ?_
      obtain ⟨J69,hJ69,h⟩:=h
      refine sjD (fun (q:List Int×Int×List Int)=>J69 q.1 q.2.1 q.2.2) (fun (q:List Int×Int×List Int)=>(fun (o0_L_10:List Int) (o0_At_10:Int) (r_Conds_8:List Int)=>([(1,.ptr 3 0),(3,.agg [vL enc_u8 o0_L_10,vi o0_At_10]),(4,vi conds),(7,vB plain),(19,.ptr 38 0),(22,.ptr 44 0),(25,vi i_1),(38,.agg [oL 3 enc_i64 ([]),vB false,vB false,vi 0,vI .u64 0,vI .u64 0,vI .u64 0,vI .u64 0,vi 0,vi 0,oL 36 enc_api_Rx ([]),vi 0,vI .u64 0,vI .u64 0,vI .u64 0,vI .u64 0,vi 0,vi 0,oL 36 enc_api_Rx ([]),vB false,vi 0,vi 0]),(44,.agg [oL 3 enc_i64 r_Conds_8,vB false,vB false,vi 0,vI .u64 0,vI .u64 0,vI .u64 0,vI .u64 0,vi 0,vi 0,oL 36 enc_api_Rx ([]),vi 0,vI .u64 0,vI .u64 0,vI .u64 0,vI .u64 0,vi 0,vi 0,oL 36 enc_api_Rx ([]),vB false,vi (w64 ((1:Int)+r0)),vi r_To])]:Sta)) q.1 q.2.1 q.2.2) ?_ ?_
      ·rintro ⟨o0_L_10,o0_At_10,r_Conds_8⟩ hj
       have h:=hJ69 o0_L_10 o0_At_10 r_Conds_8 hj
       refine rD kk [] [] [(25,vi (w64 (i_1+1)))] obN ?_
       exact lD (o0_L_10,o0_At_10,r_Conds_8,(w64 (i_1+1))) [] h
      ·refine bD (id:=2) ?_
       obtain ⟨r0_23,o_23,hc70,h⟩:=h
       refine sD kk [.c (vi r0_23) [av_hecklelaw03_Maker o_23]] [] [(3,av_hecklelaw03_Maker o_23),(103,vB (r0_23 == 1))] (obC hc70 obN) ?_
       refine cD (t:=34) (b:=r0_23 == 1) (fun hb71=>?_) (fun hb71=>?_)
       ·have h:=h.1 hb71
        obtain ⟨h72,h⟩:=h
        refine rDE kk [] [103] [(44,.agg [.own 3 (List.map enc_i64 r_Conds_6++List.take (List.length [FV.pv (Value.int IntKind.i64 i_1)]) (List.drop (0:Nat) [FV.pv (Value.int IntKind.i64 i_1)])),vB false,vB false,vi 0,vI .u64 0,vI .u64 0,vI .u64 0,vI .u64 0,vi 0,vi 0,oL 36 enc_api_Rx ([]),vi 0,vI .u64 0,vI .u64 0,vI .u64 0,vI .u64 0,vi 0,vi 0,oL 36 enc_api_Rx ([]),vB false,vi (w64 ((1:Int)+r0)),vi r_To])] [(44,.agg [oL 3 enc_i64 (r_Conds_6++[i_1]),vB false,vB false,vi 0,vI .u64 0,vI .u64 0,vI .u64 0,vI .u64 0,vi 0,vi 0,oL 36 enc_api_Rx ([]),vi 0,vI .u64 0,vI .u64 0,vI .u64 0,vI .u64 0,vi 0,vi 0,oL 36 enc_api_Rx ([]),vB false,vi (w64 ((1:Int)+r0)),vi r_To])] (obC (show (0:Nat)=(0:Nat)∧List.length (List.map enc_i64 r_Conds_6)=List.length (List.map enc_i64 r_Conds_6) from ⟨rfl,rfl⟩) (obC (show (List.length (List.map enc_i64 r_Conds_6)+List.length (List.take (1:Nat) (List.drop (0:Nat) [FV.pv (Value.int IntKind.i64 i_1)]))) * (8:Nat)≤(2:Nat) ^ (47:Nat) from by simpa only [nm] using h72) (obC (show List.all (List.take (1:Nat) (List.drop (0:Nat) [FV.pv (Value.int IntKind.i64 i_1)])) (FV.fits (1:Nat))=true from by first | exact fits_i64 _ | exact keysenc_i64 _ | rfl | simp [isByteF,FV.fits,FV.size,FV.cells,FV.one,]) obN))) ?_
        exact jD ((hecklelaw03_Maker.L o_23),(hecklelaw03_Maker.At o_23),(r_Conds_6++[i_1])) [] h
       ·have h:=h.2 hb71
        refine Sem.skip' (by kernel_rfl) Wk.refl ?_
        exact jD ((hecklelaw03_Maker.L o_23),(hecklelaw03_Maker.At o_23),r_Conds_6) [] h
     ·have h:=h.2 hb65
      refine xD (i:=1) ?_
      exact jD (o0_L_8,o0_At_8,r_Conds_6,false) [] h
    ·have h:=h.2 hb48
     refine Sem.skip' (by kernel_rfl) Wk.refl ?_
     exact jD ((hecklelaw03_Maker.L o_17),(hecklelaw03_Maker.At o_17),([]),false) [] h
 ·refine sD kk [] [] [(46,vB (w64 ((1:Int)+r0) == (3:Int)))] obN ?_
  refine cD (t:=15) (b:=w64 ((1:Int)+r0) == (3:Int)) (fun hb73=>?_) (fun hb73=>?_)
  ·have h:=h.1 hb73
   obtain ⟨r0_24,o_24,hc74,h⟩:=h
   refine rD kk [.c (vi r0_24) [av_hecklelaw03_Maker o_24]] [46] [(3,av_hecklelaw03_Maker o_24),(44,.agg [oL 3 enc_i64 ([]),vB false,vB false,vi 0,vI .u64 0,vI .u64 0,vI .u64 0,vI .u64 0,vi 0,vi 0,oL 36 enc_api_Rx ([]),vi 0,vI .u64 0,vI .u64 0,vI .u64 0,vI .u64 0,vi 0,vi 0,oL 36 enc_api_Rx ([]),vB false,vi (w64 ((1:Int)+r0)),vi r0_24])] (obC hc74 obN) ?_
   exact jD ((hecklelaw03_Maker.L o_24),(hecklelaw03_Maker.At o_24),r0_24) [] h
  ·have h:=h.2 hb73
   refine Sem.skip' (by kernel_rfl) Wk.refl ?_
   exact jD ((hecklelaw03_Maker.L o),(hecklelaw03_Maker.At o),0) [] h
end Go.Ev
