import Derived.Test.YtkeiahjelpjegaaA02
import Derived.Test.YtkeiahjelpjegaaProg
import Derived.Shelf.Small.Bits
import Derived.Shelf.Small.Wraps
import Derived.Shelf.Strconv.Itoa0
import Derived.Shelf.Sort.Plain
import Derived.Shelf.Slices.Turned
import Derived.Ground.Names2Prog
import Derived.Shelf.Slices.CompactI
import Derived.Shelf.Slices.SearchI
import Derived.Shelf.Slices.Cells
import Derived.Shelf.Slices.In.SortNone
import Derived.Shelf.Spec.SlicesGrow
import Derived.Lib.RowBridge
set_option linter.unusedSimpArgs false
set_option linter.unusedVariables false
namespace Go.Ev
open Go Go.Proofs
set_option maxRecDepth 8000
def enc_i64 (n:Int):FV:=.pv (.int .i64 n)
theorem fits_i64 (l:List Int):(List.map enc_i64 l).all (FV.fits 1)=true:=by simp [FV.fits,FV.size,FV.cells,FV.one,enc_i64]
def enc_bool (b:Bool):FV:=.pv (.bool b)
structure runtime_boundsError where
 x:Int
 y:Int
 signed:Bool
 code:Int
 deriving Inhabited,DecidableEq
def enc_runtime_boundsError (x:runtime_boundsError):FV:=.agg [.pv (.int .i64 x.x),.pv (.int .i64 x.y),.pv (.bool x.signed),.pv (.int .u8 x.code)]
theorem enc_runtime_boundsError_eq (x:runtime_boundsError):enc_runtime_boundsError x=.agg [.pv (.int .i64 x.x),.pv (.int .i64 x.y),.pv (.bool x.signed),.pv (.int .u8 x.code)]:=rfl
abbrev fv_runtime_boundsError (x:runtime_boundsError):FV:=.agg [.pv (.int .i64 x.x),.pv (.int .i64 x.y),.pv (.bool x.signed),.pv (.int .u8 x.code)]
abbrev av_runtime_boundsError (x:runtime_boundsError):AV:=.agg [vI .i64 x.x,vI .i64 x.y,vB x.signed,vI .u8 x.code]
abbrev ao_runtime_boundsError (x:runtime_boundsError):AV:=.agg [vI .i64 x.x,vI .i64 x.y,vB x.signed,vI .u8 x.code]
def enc_string (s:ByteArray):FV:=.pv (.string s)
def enc_u64 (n:Int):FV:=.pv (.int .u64 n)
structure runtime_errorAddressString where
 msg:ByteArray
 addr:Int
 deriving Inhabited,DecidableEq
def enc_runtime_errorAddressString (x:runtime_errorAddressString):FV:=.agg [.pv (.string x.msg),.pv (.int .u64 x.addr)]
theorem enc_runtime_errorAddressString_eq (x:runtime_errorAddressString):enc_runtime_errorAddressString x=.agg [.pv (.string x.msg),.pv (.int .u64 x.addr)]:=rfl
abbrev fv_runtime_errorAddressString (x:runtime_errorAddressString):FV:=.agg [.pv (.string x.msg),.pv (.int .u64 x.addr)]
abbrev av_runtime_errorAddressString (x:runtime_errorAddressString):AV:=.agg [vS x.msg,vI .u64 x.addr]
abbrev ao_runtime_errorAddressString (x:runtime_errorAddressString):AV:=.agg [vS x.msg,vI .u64 x.addr]
def enc_i32 (n:Int):FV:=.pv (.int .i32 n)
def encs_u8 (l:(List Int)):FV:=.sl (List.map enc_u8 l)
structure api_Cond where
 Name:ByteArray
 Exclusive:Bool
 deriving Inhabited,DecidableEq
def enc_api_Cond (x:api_Cond):FV:=.agg [.pv (.string x.Name),.pv (.bool x.Exclusive)]
theorem enc_api_Cond_eq (x:api_Cond):enc_api_Cond x=.agg [.pv (.string x.Name),.pv (.bool x.Exclusive)]:=rfl
abbrev fv_api_Cond (x:api_Cond):FV:=.agg [.pv (.string x.Name),.pv (.bool x.Exclusive)]
abbrev av_api_Cond (x:api_Cond):AV:=.agg [vS x.Name,vB x.Exclusive]
abbrev ao_api_Cond (x:api_Cond):AV:=.agg [vS x.Name,vB x.Exclusive]
def encs_api_Cond (l:(List api_Cond)):FV:=.sl (List.map enc_api_Cond l)
def encs_i64 (l:(List Int)):FV:=.sl (List.map enc_i64 l)
structure arr4_uint64 where
 e0:Int
 e1:Int
 e2:Int
 e3:Int
 deriving Inhabited,DecidableEq
def enc_arr4_uint64 (x:arr4_uint64):FV:=.agg [.pv (.int .u64 x.e0),.pv (.int .u64 x.e1),.pv (.int .u64 x.e2),.pv (.int .u64 x.e3)]
theorem enc_arr4_uint64_eq (x:arr4_uint64):enc_arr4_uint64 x=.agg [.pv (.int .u64 x.e0),.pv (.int .u64 x.e1),.pv (.int .u64 x.e2),.pv (.int .u64 x.e3)]:=rfl
abbrev fv_arr4_uint64 (x:arr4_uint64):FV:=.agg [.pv (.int .u64 x.e0),.pv (.int .u64 x.e1),.pv (.int .u64 x.e2),.pv (.int .u64 x.e3)]
abbrev av_arr4_uint64 (x:arr4_uint64):AV:=.agg [vI .u64 x.e0,vI .u64 x.e1,vI .u64 x.e2,vI .u64 x.e3]
abbrev ao_arr4_uint64 (x:arr4_uint64):AV:=.agg [vI .u64 x.e0,vI .u64 x.e1,vI .u64 x.e2,vI .u64 x.e3]
structure api_Rx where
 Kind:Int
 Set:arr4_uint64
 Lo:Int
 Hi:Int
 Kids:(List api_Rx)
 deriving Inhabited
def enc_api_Rx:api_Rx→FV
 | ⟨a_Kind,a_Set,a_Lo,a_Hi,a_Kids⟩=>.agg [.pv (.int .i64 a_Kind),.pv (.int .u64 a_Set.e0),.pv (.int .u64 a_Set.e1),.pv (.int .u64 a_Set.e2),.pv (.int .u64 a_Set.e3),.pv (.int .i64 a_Lo),.pv (.int .i64 a_Hi),.sl (List.map enc_api_Rx a_Kids)]
theorem enc_api_Rx_eq (x:api_Rx):enc_api_Rx x=.agg [.pv (.int .i64 x.Kind),.pv (.int .u64 x.Set.e0),.pv (.int .u64 x.Set.e1),.pv (.int .u64 x.Set.e2),.pv (.int .u64 x.Set.e3),.pv (.int .i64 x.Lo),.pv (.int .i64 x.Hi),.sl (List.map enc_api_Rx x.Kids)]:=by cases x;rw [enc_api_Rx]
abbrev fv_api_Rx (x:api_Rx):FV:=.agg [.pv (.int .i64 x.Kind),.pv (.int .u64 x.Set.e0),.pv (.int .u64 x.Set.e1),.pv (.int .u64 x.Set.e2),.pv (.int .u64 x.Set.e3),.pv (.int .i64 x.Lo),.pv (.int .i64 x.Hi),.sl (List.map enc_api_Rx x.Kids)]
abbrev av_api_Rx (x:api_Rx):AV:=.agg [vI .i64 x.Kind,vI .u64 x.Set.e0,vI .u64 x.Set.e1,vI .u64 x.Set.e2,vI .u64 x.Set.e3,vI .i64 x.Lo,vI .i64 x.Hi,vL enc_api_Rx x.Kids]
abbrev ao_api_Rx (x:api_Rx):AV:=.agg [vI .i64 x.Kind,vI .u64 x.Set.e0,vI .u64 x.Set.e1,vI .u64 x.Set.e2,vI .u64 x.Set.e3,vI .i64 x.Lo,vI .i64 x.Hi,oL 36 enc_api_Rx x.Kids]
structure api_Rule where
 Conds:(List Int)
 All:Bool
 Bol:Bool
 Rx:api_Rx
 Trail:api_Rx
 Eof:Bool
 Act:Int
 To:Int
 deriving Inhabited
def enc_api_Rule (x:api_Rule):FV:=.agg [.sl (List.map enc_i64 x.Conds),.pv (.bool x.All),.pv (.bool x.Bol),.pv (.int .i64 x.Rx.Kind),.pv (.int .u64 x.Rx.Set.e0),.pv (.int .u64 x.Rx.Set.e1),.pv (.int .u64 x.Rx.Set.e2),.pv (.int .u64 x.Rx.Set.e3),.pv (.int .i64 x.Rx.Lo),.pv (.int .i64 x.Rx.Hi),.sl (List.map enc_api_Rx x.Rx.Kids),.pv (.int .i64 x.Trail.Kind),.pv (.int .u64 x.Trail.Set.e0),.pv (.int .u64 x.Trail.Set.e1),.pv (.int .u64 x.Trail.Set.e2),.pv (.int .u64 x.Trail.Set.e3),.pv (.int .i64 x.Trail.Lo),.pv (.int .i64 x.Trail.Hi),.sl (List.map enc_api_Rx x.Trail.Kids),.pv (.bool x.Eof),.pv (.int .i64 x.Act),.pv (.int .i64 x.To)]
theorem enc_api_Rule_eq (x:api_Rule):enc_api_Rule x=.agg [.sl (List.map enc_i64 x.Conds),.pv (.bool x.All),.pv (.bool x.Bol),.pv (.int .i64 x.Rx.Kind),.pv (.int .u64 x.Rx.Set.e0),.pv (.int .u64 x.Rx.Set.e1),.pv (.int .u64 x.Rx.Set.e2),.pv (.int .u64 x.Rx.Set.e3),.pv (.int .i64 x.Rx.Lo),.pv (.int .i64 x.Rx.Hi),.sl (List.map enc_api_Rx x.Rx.Kids),.pv (.int .i64 x.Trail.Kind),.pv (.int .u64 x.Trail.Set.e0),.pv (.int .u64 x.Trail.Set.e1),.pv (.int .u64 x.Trail.Set.e2),.pv (.int .u64 x.Trail.Set.e3),.pv (.int .i64 x.Trail.Lo),.pv (.int .i64 x.Trail.Hi),.sl (List.map enc_api_Rx x.Trail.Kids),.pv (.bool x.Eof),.pv (.int .i64 x.Act),.pv (.int .i64 x.To)]:=rfl
abbrev fv_api_Rule (x:api_Rule):FV:=.agg [.sl (List.map enc_i64 x.Conds),.pv (.bool x.All),.pv (.bool x.Bol),.pv (.int .i64 x.Rx.Kind),.pv (.int .u64 x.Rx.Set.e0),.pv (.int .u64 x.Rx.Set.e1),.pv (.int .u64 x.Rx.Set.e2),.pv (.int .u64 x.Rx.Set.e3),.pv (.int .i64 x.Rx.Lo),.pv (.int .i64 x.Rx.Hi),.sl (List.map enc_api_Rx x.Rx.Kids),.pv (.int .i64 x.Trail.Kind),.pv (.int .u64 x.Trail.Set.e0),.pv (.int .u64 x.Trail.Set.e1),.pv (.int .u64 x.Trail.Set.e2),.pv (.int .u64 x.Trail.Set.e3),.pv (.int .i64 x.Trail.Lo),.pv (.int .i64 x.Trail.Hi),.sl (List.map enc_api_Rx x.Trail.Kids),.pv (.bool x.Eof),.pv (.int .i64 x.Act),.pv (.int .i64 x.To)]
abbrev av_api_Rule (x:api_Rule):AV:=.agg [vL enc_i64 x.Conds,vB x.All,vB x.Bol,vI .i64 x.Rx.Kind,vI .u64 x.Rx.Set.e0,vI .u64 x.Rx.Set.e1,vI .u64 x.Rx.Set.e2,vI .u64 x.Rx.Set.e3,vI .i64 x.Rx.Lo,vI .i64 x.Rx.Hi,vL enc_api_Rx x.Rx.Kids,vI .i64 x.Trail.Kind,vI .u64 x.Trail.Set.e0,vI .u64 x.Trail.Set.e1,vI .u64 x.Trail.Set.e2,vI .u64 x.Trail.Set.e3,vI .i64 x.Trail.Lo,vI .i64 x.Trail.Hi,vL enc_api_Rx x.Trail.Kids,vB x.Eof,vI .i64 x.Act,vI .i64 x.To]
abbrev ao_api_Rule (x:api_Rule):AV:=.agg [oL 3 enc_i64 x.Conds,vB x.All,vB x.Bol,vI .i64 x.Rx.Kind,vI .u64 x.Rx.Set.e0,vI .u64 x.Rx.Set.e1,vI .u64 x.Rx.Set.e2,vI .u64 x.Rx.Set.e3,vI .i64 x.Rx.Lo,vI .i64 x.Rx.Hi,oL 36 enc_api_Rx x.Rx.Kids,vI .i64 x.Trail.Kind,vI .u64 x.Trail.Set.e0,vI .u64 x.Trail.Set.e1,vI .u64 x.Trail.Set.e2,vI .u64 x.Trail.Set.e3,vI .i64 x.Trail.Lo,vI .i64 x.Trail.Hi,oL 36 enc_api_Rx x.Trail.Kids,vB x.Eof,vI .i64 x.Act,vI .i64 x.To]
def encs_api_Rule (l:(List api_Rule)):FV:=.sl (List.map enc_api_Rule l)
structure api_Spec where
 Conds:(List api_Cond)
 Default:Bool
 Rules:(List api_Rule)
 deriving Inhabited
def enc_api_Spec (x:api_Spec):FV:=.agg [.sl (List.map enc_api_Cond x.Conds),.pv (.bool x.Default),.sl (List.map enc_api_Rule x.Rules)]
theorem enc_api_Spec_eq (x:api_Spec):enc_api_Spec x=.agg [.sl (List.map enc_api_Cond x.Conds),.pv (.bool x.Default),.sl (List.map enc_api_Rule x.Rules)]:=rfl
abbrev fv_api_Spec (x:api_Spec):FV:=.agg [.sl (List.map enc_api_Cond x.Conds),.pv (.bool x.Default),.sl (List.map enc_api_Rule x.Rules)]
abbrev av_api_Spec (x:api_Spec):AV:=.agg [vL enc_api_Cond x.Conds,vB x.Default,vL enc_api_Rule x.Rules]
abbrev ao_api_Spec (x:api_Spec):AV:=.agg [oL 69 enc_api_Cond x.Conds,vB x.Default,oL 38 enc_api_Rule x.Rules]
def encs_api_Rx (l:(List api_Rx)):FV:=.sl (List.map enc_api_Rx l)
def encs_bool (l:(List Bool)):FV:=.sl (List.map enc_bool l)
def encs_arr4_uint64 (l:(List arr4_uint64)):FV:=.sl (List.map enc_arr4_uint64 l)
def encs__i64 (l:(List (List Int))):FV:=.sl (List.map encs_i64 l)
structure api_Auto where
 Sets:(List arr4_uint64)
 Owner:(List Int)
 Follow:(List (List Int))
 Ends:(List Bool)
 Starts:(List (List Int))
 deriving Inhabited,DecidableEq
def enc_api_Auto (x:api_Auto):FV:=.agg [.sl (List.map enc_arr4_uint64 x.Sets),.sl (List.map enc_i64 x.Owner),.sl (List.map encs_i64 x.Follow),.sl (List.map enc_bool x.Ends),.sl (List.map encs_i64 x.Starts)]
theorem enc_api_Auto_eq (x:api_Auto):enc_api_Auto x=.agg [.sl (List.map enc_arr4_uint64 x.Sets),.sl (List.map enc_i64 x.Owner),.sl (List.map encs_i64 x.Follow),.sl (List.map enc_bool x.Ends),.sl (List.map encs_i64 x.Starts)]:=rfl
abbrev fv_api_Auto (x:api_Auto):FV:=.agg [.sl (List.map enc_arr4_uint64 x.Sets),.sl (List.map enc_i64 x.Owner),.sl (List.map encs_i64 x.Follow),.sl (List.map enc_bool x.Ends),.sl (List.map encs_i64 x.Starts)]
abbrev av_api_Auto (x:api_Auto):AV:=.agg [vL enc_arr4_uint64 x.Sets,vL enc_i64 x.Owner,vL encs_i64 x.Follow,vL enc_bool x.Ends,vL encs_i64 x.Starts]
abbrev ao_api_Auto (x:api_Auto):AV:=.agg [oL 33 enc_arr4_uint64 x.Sets,oL 3 enc_i64 x.Owner,oL 30 encs_i64 x.Follow,oL 4 enc_bool x.Ends,oL 30 encs_i64 x.Starts]
structure hecklelaw03_Maker where
 L:(List Int)
 At:Int
 deriving Inhabited,DecidableEq
def enc_hecklelaw03_Maker (x:hecklelaw03_Maker):FV:=.agg [.sl (List.map enc_u8 x.L),.pv (.int .i64 x.At)]
theorem enc_hecklelaw03_Maker_eq (x:hecklelaw03_Maker):enc_hecklelaw03_Maker x=.agg [.sl (List.map enc_u8 x.L),.pv (.int .i64 x.At)]:=rfl
abbrev fv_hecklelaw03_Maker (x:hecklelaw03_Maker):FV:=.agg [.sl (List.map enc_u8 x.L),.pv (.int .i64 x.At)]
abbrev av_hecklelaw03_Maker (x:hecklelaw03_Maker):AV:=.agg [vL enc_u8 x.L,vI .i64 x.At]
abbrev ao_hecklelaw03_Maker (x:hecklelaw03_Maker):AV:=.agg [oL 5 enc_u8 x.L,vI .i64 x.At]
structure auto_builder where
 Auto:api_Auto
 deriving Inhabited,DecidableEq
def enc_auto_builder (x:auto_builder):FV:=.agg [.sl (List.map enc_arr4_uint64 x.Auto.Sets),.sl (List.map enc_i64 x.Auto.Owner),.sl (List.map encs_i64 x.Auto.Follow),.sl (List.map enc_bool x.Auto.Ends),.sl (List.map encs_i64 x.Auto.Starts)]
theorem enc_auto_builder_eq (x:auto_builder):enc_auto_builder x=.agg [.sl (List.map enc_arr4_uint64 x.Auto.Sets),.sl (List.map enc_i64 x.Auto.Owner),.sl (List.map encs_i64 x.Auto.Follow),.sl (List.map enc_bool x.Auto.Ends),.sl (List.map encs_i64 x.Auto.Starts)]:=rfl
abbrev fv_auto_builder (x:auto_builder):FV:=.agg [.sl (List.map enc_arr4_uint64 x.Auto.Sets),.sl (List.map enc_i64 x.Auto.Owner),.sl (List.map encs_i64 x.Auto.Follow),.sl (List.map enc_bool x.Auto.Ends),.sl (List.map encs_i64 x.Auto.Starts)]
abbrev av_auto_builder (x:auto_builder):AV:=.agg [vL enc_arr4_uint64 x.Auto.Sets,vL enc_i64 x.Auto.Owner,vL encs_i64 x.Auto.Follow,vL enc_bool x.Auto.Ends,vL encs_i64 x.Auto.Starts]
abbrev ao_auto_builder (x:auto_builder):AV:=.agg [oL 33 enc_arr4_uint64 x.Auto.Sets,oL 3 enc_i64 x.Auto.Owner,oL 30 encs_i64 x.Auto.Follow,oL 4 enc_bool x.Auto.Ends,oL 30 encs_i64 x.Auto.Starts]
structure rx_pattern where
 Kind:Int
 Set:arr4_uint64
 Lo:Int
 Hi:Int
 Kids:(List api_Rx)
 deriving Inhabited
def enc_rx_pattern (x:rx_pattern):FV:=.agg [.pv (.int .i64 x.Kind),.pv (.int .u64 x.Set.e0),.pv (.int .u64 x.Set.e1),.pv (.int .u64 x.Set.e2),.pv (.int .u64 x.Set.e3),.pv (.int .i64 x.Lo),.pv (.int .i64 x.Hi),.sl (List.map enc_api_Rx x.Kids)]
theorem enc_rx_pattern_eq (x:rx_pattern):enc_rx_pattern x=.agg [.pv (.int .i64 x.Kind),.pv (.int .u64 x.Set.e0),.pv (.int .u64 x.Set.e1),.pv (.int .u64 x.Set.e2),.pv (.int .u64 x.Set.e3),.pv (.int .i64 x.Lo),.pv (.int .i64 x.Hi),.sl (List.map enc_api_Rx x.Kids)]:=rfl
abbrev fv_rx_pattern (x:rx_pattern):FV:=.agg [.pv (.int .i64 x.Kind),.pv (.int .u64 x.Set.e0),.pv (.int .u64 x.Set.e1),.pv (.int .u64 x.Set.e2),.pv (.int .u64 x.Set.e3),.pv (.int .i64 x.Lo),.pv (.int .i64 x.Hi),.sl (List.map enc_api_Rx x.Kids)]
abbrev av_rx_pattern (x:rx_pattern):AV:=.agg [vI .i64 x.Kind,vI .u64 x.Set.e0,vI .u64 x.Set.e1,vI .u64 x.Set.e2,vI .u64 x.Set.e3,vI .i64 x.Lo,vI .i64 x.Hi,vL enc_api_Rx x.Kids]
abbrev ao_rx_pattern (x:rx_pattern):AV:=.agg [vI .i64 x.Kind,vI .u64 x.Set.e0,vI .u64 x.Set.e1,vI .u64 x.Set.e2,vI .u64 x.Set.e3,vI .i64 x.Lo,vI .i64 x.Hi,oL 36 enc_api_Rx x.Kids]
structure api_Places where
 Sets:(List arr4_uint64)
 First:(List Int)
 Last:(List Int)
 Follow:(List (List Int))
 Null:Bool
 deriving Inhabited,DecidableEq
def enc_api_Places (x:api_Places):FV:=.agg [.sl (List.map enc_arr4_uint64 x.Sets),.sl (List.map enc_i64 x.First),.sl (List.map enc_i64 x.Last),.sl (List.map encs_i64 x.Follow),.pv (.bool x.Null)]
theorem enc_api_Places_eq (x:api_Places):enc_api_Places x=.agg [.sl (List.map enc_arr4_uint64 x.Sets),.sl (List.map enc_i64 x.First),.sl (List.map enc_i64 x.Last),.sl (List.map encs_i64 x.Follow),.pv (.bool x.Null)]:=rfl
abbrev fv_api_Places (x:api_Places):FV:=.agg [.sl (List.map enc_arr4_uint64 x.Sets),.sl (List.map enc_i64 x.First),.sl (List.map enc_i64 x.Last),.sl (List.map encs_i64 x.Follow),.pv (.bool x.Null)]
abbrev av_api_Places (x:api_Places):AV:=.agg [vL enc_arr4_uint64 x.Sets,vL enc_i64 x.First,vL enc_i64 x.Last,vL encs_i64 x.Follow,vB x.Null]
abbrev ao_api_Places (x:api_Places):AV:=.agg [oL 33 enc_arr4_uint64 x.Sets,oL 3 enc_i64 x.First,oL 3 enc_i64 x.Last,oL 30 encs_i64 x.Follow,vB x.Null]
structure struct121 where
 deriving Inhabited,DecidableEq
def enc_struct121 (x:struct121):FV:=.agg []
theorem enc_struct121_eq (x:struct121):enc_struct121 x=.agg []:=rfl
abbrev fv_struct121 (x:struct121):FV:=.agg []
abbrev av_struct121 (x:struct121):AV:=.agg []
abbrev ao_struct121 (x:struct121):AV:=.agg []
structure spec_rule where
 Conds:(List Int)
 All:Bool
 Bol:Bool
 Rx:api_Rx
 Trail:api_Rx
 Eof:Bool
 Act:Int
 To:Int
 deriving Inhabited
def enc_spec_rule (x:spec_rule):FV:=.agg [.sl (List.map enc_i64 x.Conds),.pv (.bool x.All),.pv (.bool x.Bol),.pv (.int .i64 x.Rx.Kind),.pv (.int .u64 x.Rx.Set.e0),.pv (.int .u64 x.Rx.Set.e1),.pv (.int .u64 x.Rx.Set.e2),.pv (.int .u64 x.Rx.Set.e3),.pv (.int .i64 x.Rx.Lo),.pv (.int .i64 x.Rx.Hi),.sl (List.map enc_api_Rx x.Rx.Kids),.pv (.int .i64 x.Trail.Kind),.pv (.int .u64 x.Trail.Set.e0),.pv (.int .u64 x.Trail.Set.e1),.pv (.int .u64 x.Trail.Set.e2),.pv (.int .u64 x.Trail.Set.e3),.pv (.int .i64 x.Trail.Lo),.pv (.int .i64 x.Trail.Hi),.sl (List.map enc_api_Rx x.Trail.Kids),.pv (.bool x.Eof),.pv (.int .i64 x.Act),.pv (.int .i64 x.To)]
theorem enc_spec_rule_eq (x:spec_rule):enc_spec_rule x=.agg [.sl (List.map enc_i64 x.Conds),.pv (.bool x.All),.pv (.bool x.Bol),.pv (.int .i64 x.Rx.Kind),.pv (.int .u64 x.Rx.Set.e0),.pv (.int .u64 x.Rx.Set.e1),.pv (.int .u64 x.Rx.Set.e2),.pv (.int .u64 x.Rx.Set.e3),.pv (.int .i64 x.Rx.Lo),.pv (.int .i64 x.Rx.Hi),.sl (List.map enc_api_Rx x.Rx.Kids),.pv (.int .i64 x.Trail.Kind),.pv (.int .u64 x.Trail.Set.e0),.pv (.int .u64 x.Trail.Set.e1),.pv (.int .u64 x.Trail.Set.e2),.pv (.int .u64 x.Trail.Set.e3),.pv (.int .i64 x.Trail.Lo),.pv (.int .i64 x.Trail.Hi),.sl (List.map enc_api_Rx x.Trail.Kids),.pv (.bool x.Eof),.pv (.int .i64 x.Act),.pv (.int .i64 x.To)]:=rfl
abbrev fv_spec_rule (x:spec_rule):FV:=.agg [.sl (List.map enc_i64 x.Conds),.pv (.bool x.All),.pv (.bool x.Bol),.pv (.int .i64 x.Rx.Kind),.pv (.int .u64 x.Rx.Set.e0),.pv (.int .u64 x.Rx.Set.e1),.pv (.int .u64 x.Rx.Set.e2),.pv (.int .u64 x.Rx.Set.e3),.pv (.int .i64 x.Rx.Lo),.pv (.int .i64 x.Rx.Hi),.sl (List.map enc_api_Rx x.Rx.Kids),.pv (.int .i64 x.Trail.Kind),.pv (.int .u64 x.Trail.Set.e0),.pv (.int .u64 x.Trail.Set.e1),.pv (.int .u64 x.Trail.Set.e2),.pv (.int .u64 x.Trail.Set.e3),.pv (.int .i64 x.Trail.Lo),.pv (.int .i64 x.Trail.Hi),.sl (List.map enc_api_Rx x.Trail.Kids),.pv (.bool x.Eof),.pv (.int .i64 x.Act),.pv (.int .i64 x.To)]
abbrev av_spec_rule (x:spec_rule):AV:=.agg [vL enc_i64 x.Conds,vB x.All,vB x.Bol,vI .i64 x.Rx.Kind,vI .u64 x.Rx.Set.e0,vI .u64 x.Rx.Set.e1,vI .u64 x.Rx.Set.e2,vI .u64 x.Rx.Set.e3,vI .i64 x.Rx.Lo,vI .i64 x.Rx.Hi,vL enc_api_Rx x.Rx.Kids,vI .i64 x.Trail.Kind,vI .u64 x.Trail.Set.e0,vI .u64 x.Trail.Set.e1,vI .u64 x.Trail.Set.e2,vI .u64 x.Trail.Set.e3,vI .i64 x.Trail.Lo,vI .i64 x.Trail.Hi,vL enc_api_Rx x.Trail.Kids,vB x.Eof,vI .i64 x.Act,vI .i64 x.To]
abbrev ao_spec_rule (x:spec_rule):AV:=.agg [oL 3 enc_i64 x.Conds,vB x.All,vB x.Bol,vI .i64 x.Rx.Kind,vI .u64 x.Rx.Set.e0,vI .u64 x.Rx.Set.e1,vI .u64 x.Rx.Set.e2,vI .u64 x.Rx.Set.e3,vI .i64 x.Rx.Lo,vI .i64 x.Rx.Hi,oL 36 enc_api_Rx x.Rx.Kids,vI .i64 x.Trail.Kind,vI .u64 x.Trail.Set.e0,vI .u64 x.Trail.Set.e1,vI .u64 x.Trail.Set.e2,vI .u64 x.Trail.Set.e3,vI .i64 x.Trail.Lo,vI .i64 x.Trail.Hi,oL 36 enc_api_Rx x.Trail.Kids,vB x.Eof,vI .i64 x.Act,vI .i64 x.To]
structure place_builder where
 sets:(List arr4_uint64)
 follow:(List (List Int))
 deriving Inhabited,DecidableEq
def enc_place_builder (x:place_builder):FV:=.agg [.sl (List.map enc_arr4_uint64 x.sets),.sl (List.map encs_i64 x.follow)]
theorem enc_place_builder_eq (x:place_builder):enc_place_builder x=.agg [.sl (List.map enc_arr4_uint64 x.sets),.sl (List.map encs_i64 x.follow)]:=rfl
abbrev fv_place_builder (x:place_builder):FV:=.agg [.sl (List.map enc_arr4_uint64 x.sets),.sl (List.map encs_i64 x.follow)]
abbrev av_place_builder (x:place_builder):AV:=.agg [vL enc_arr4_uint64 x.sets,vL encs_i64 x.follow]
abbrev ao_place_builder (x:place_builder):AV:=.agg [oL 33 enc_arr4_uint64 x.sets,oL 30 encs_i64 x.follow]
structure place_piece where
 first:(List Int)
 last:(List Int)
 null:Bool
 deriving Inhabited,DecidableEq
def enc_place_piece (x:place_piece):FV:=.agg [.sl (List.map enc_i64 x.first),.sl (List.map enc_i64 x.last),.pv (.bool x.null)]
theorem enc_place_piece_eq (x:place_piece):enc_place_piece x=.agg [.sl (List.map enc_i64 x.first),.sl (List.map enc_i64 x.last),.pv (.bool x.null)]:=rfl
abbrev fv_place_piece (x:place_piece):FV:=.agg [.sl (List.map enc_i64 x.first),.sl (List.map enc_i64 x.last),.pv (.bool x.null)]
abbrev av_place_piece (x:place_piece):AV:=.agg [vL enc_i64 x.first,vL enc_i64 x.last,vB x.null]
abbrev ao_place_piece (x:place_piece):AV:=.agg [oL 3 enc_i64 x.first,oL 3 enc_i64 x.last,vB x.null]
structure arr2_int where
 e0:Int
 e1:Int
 deriving Inhabited,DecidableEq
def enc_arr2_int (x:arr2_int):FV:=.agg [.pv (.int .i64 x.e0),.pv (.int .i64 x.e1)]
theorem enc_arr2_int_eq (x:arr2_int):enc_arr2_int x=.agg [.pv (.int .i64 x.e0),.pv (.int .i64 x.e1)]:=rfl
abbrev fv_arr2_int (x:arr2_int):FV:=.agg [.pv (.int .i64 x.e0),.pv (.int .i64 x.e1)]
abbrev av_arr2_int (x:arr2_int):AV:=.agg [vI .i64 x.e0,vI .i64 x.e1]
abbrev ao_arr2_int (x:arr2_int):AV:=.agg [vI .i64 x.e0,vI .i64 x.e1]
def encs_arr2_int (l:(List arr2_int)):FV:=.sl (List.map enc_arr2_int l)
def encs_place_piece (l:(List place_piece)):FV:=.sl (List.map enc_place_piece l)
def enc_u32 (n:Int):FV:=.pv (.int .u32 n)
def encm_string_set (x:ByteArray):FV:=.agg [.pv (.string x),.agg []]
theorem putencm_string_set (k:ByteArray) (l:List ByteArray):putE (.string k) (.agg []) (List.map encm_string_set l)=List.map encm_string_set (sput k l):=putE_set (fun k=>.string k) encm_string_set (fun _=>rfl) (fun a b=>by first | exact keyEq_str a b | exact keyEq_int _ _ a b) k l
def encs__string_set (l:(List ByteArray)):FV:=.sl (List.map encm_string_set l)
theorem strElems_ints (s:ByteArray):strElems s=List.map enc_u8 (strInts s):=strElems_of s _ fun _=>rfl
theorem enq:(∀ n:Int,enc_i64 n=.pv (.int .i64 n))∧
 (∀ n:Bool,enc_bool n=.pv (.bool n))∧
 (∀ n:Int,enc_u8 n=.pv (.int .u8 n))∧
 (∀ x:runtime_boundsError,enc_runtime_boundsError x=.agg [.pv (.int .i64 x.x),.pv (.int .i64 x.y),.pv (.bool x.signed),.pv (.int .u8 x.code)])∧
 (∀ x:runtime_boundsError,fv_runtime_boundsError x=.agg [.pv (.int .i64 x.x),.pv (.int .i64 x.y),.pv (.bool x.signed),.pv (.int .u8 x.code)])∧
 (∀ x:runtime_boundsError,av_runtime_boundsError x=.agg [vI .i64 x.x,vI .i64 x.y,vB x.signed,vI .u8 x.code])∧
 (∀ x:runtime_boundsError,ao_runtime_boundsError x=.agg [vI .i64 x.x,vI .i64 x.y,vB x.signed,vI .u8 x.code])∧
 (∀ n:ByteArray,enc_string n=.pv (.string n))∧
 (∀ n:Int,enc_u64 n=.pv (.int .u64 n))∧
 (∀ x:runtime_errorAddressString,enc_runtime_errorAddressString x=.agg [.pv (.string x.msg),.pv (.int .u64 x.addr)])∧
 (∀ x:runtime_errorAddressString,fv_runtime_errorAddressString x=.agg [.pv (.string x.msg),.pv (.int .u64 x.addr)])∧
 (∀ x:runtime_errorAddressString,av_runtime_errorAddressString x=.agg [vS x.msg,vI .u64 x.addr])∧
 (∀ x:runtime_errorAddressString,ao_runtime_errorAddressString x=.agg [vS x.msg,vI .u64 x.addr])∧
 (∀ n:Int,enc_i32 n=.pv (.int .i32 n))∧
 (∀ l:(List Int),encs_u8 l=.sl (List.map enc_u8 l))∧
 (∀ x:api_Cond,enc_api_Cond x=.agg [.pv (.string x.Name),.pv (.bool x.Exclusive)])∧
 (∀ x:api_Cond,fv_api_Cond x=.agg [.pv (.string x.Name),.pv (.bool x.Exclusive)])∧
 (∀ x:api_Cond,av_api_Cond x=.agg [vS x.Name,vB x.Exclusive])∧
 (∀ x:api_Cond,ao_api_Cond x=.agg [vS x.Name,vB x.Exclusive])∧
 (∀ l:(List api_Cond),encs_api_Cond l=.sl (List.map enc_api_Cond l))∧
 (∀ l:(List Int),encs_i64 l=.sl (List.map enc_i64 l))∧
 (∀ x:arr4_uint64,enc_arr4_uint64 x=.agg [.pv (.int .u64 x.e0),.pv (.int .u64 x.e1),.pv (.int .u64 x.e2),.pv (.int .u64 x.e3)])∧
 (∀ x:arr4_uint64,fv_arr4_uint64 x=.agg [.pv (.int .u64 x.e0),.pv (.int .u64 x.e1),.pv (.int .u64 x.e2),.pv (.int .u64 x.e3)])∧
 (∀ x:arr4_uint64,av_arr4_uint64 x=.agg [vI .u64 x.e0,vI .u64 x.e1,vI .u64 x.e2,vI .u64 x.e3])∧
 (∀ x:arr4_uint64,ao_arr4_uint64 x=.agg [vI .u64 x.e0,vI .u64 x.e1,vI .u64 x.e2,vI .u64 x.e3])∧
 (∀ x:api_Rx,enc_api_Rx x=.agg [.pv (.int .i64 x.Kind),.pv (.int .u64 x.Set.e0),.pv (.int .u64 x.Set.e1),.pv (.int .u64 x.Set.e2),.pv (.int .u64 x.Set.e3),.pv (.int .i64 x.Lo),.pv (.int .i64 x.Hi),.sl (List.map enc_api_Rx x.Kids)])∧
 (∀ x:api_Rx,fv_api_Rx x=.agg [.pv (.int .i64 x.Kind),.pv (.int .u64 x.Set.e0),.pv (.int .u64 x.Set.e1),.pv (.int .u64 x.Set.e2),.pv (.int .u64 x.Set.e3),.pv (.int .i64 x.Lo),.pv (.int .i64 x.Hi),.sl (List.map enc_api_Rx x.Kids)])∧
 (∀ x:api_Rx,av_api_Rx x=.agg [vI .i64 x.Kind,vI .u64 x.Set.e0,vI .u64 x.Set.e1,vI .u64 x.Set.e2,vI .u64 x.Set.e3,vI .i64 x.Lo,vI .i64 x.Hi,vL enc_api_Rx x.Kids])∧
 (∀ x:api_Rx,ao_api_Rx x=.agg [vI .i64 x.Kind,vI .u64 x.Set.e0,vI .u64 x.Set.e1,vI .u64 x.Set.e2,vI .u64 x.Set.e3,vI .i64 x.Lo,vI .i64 x.Hi,oL 36 enc_api_Rx x.Kids])∧
 (∀ x:api_Rule,enc_api_Rule x=.agg [.sl (List.map enc_i64 x.Conds),.pv (.bool x.All),.pv (.bool x.Bol),.pv (.int .i64 x.Rx.Kind),.pv (.int .u64 x.Rx.Set.e0),.pv (.int .u64 x.Rx.Set.e1),.pv (.int .u64 x.Rx.Set.e2),.pv (.int .u64 x.Rx.Set.e3),.pv (.int .i64 x.Rx.Lo),.pv (.int .i64 x.Rx.Hi),.sl (List.map enc_api_Rx x.Rx.Kids),.pv (.int .i64 x.Trail.Kind),.pv (.int .u64 x.Trail.Set.e0),.pv (.int .u64 x.Trail.Set.e1),.pv (.int .u64 x.Trail.Set.e2),.pv (.int .u64 x.Trail.Set.e3),.pv (.int .i64 x.Trail.Lo),.pv (.int .i64 x.Trail.Hi),.sl (List.map enc_api_Rx x.Trail.Kids),.pv (.bool x.Eof),.pv (.int .i64 x.Act),.pv (.int .i64 x.To)])∧
 (∀ x:api_Rule,fv_api_Rule x=.agg [.sl (List.map enc_i64 x.Conds),.pv (.bool x.All),.pv (.bool x.Bol),.pv (.int .i64 x.Rx.Kind),.pv (.int .u64 x.Rx.Set.e0),.pv (.int .u64 x.Rx.Set.e1),.pv (.int .u64 x.Rx.Set.e2),.pv (.int .u64 x.Rx.Set.e3),.pv (.int .i64 x.Rx.Lo),.pv (.int .i64 x.Rx.Hi),.sl (List.map enc_api_Rx x.Rx.Kids),.pv (.int .i64 x.Trail.Kind),.pv (.int .u64 x.Trail.Set.e0),.pv (.int .u64 x.Trail.Set.e1),.pv (.int .u64 x.Trail.Set.e2),.pv (.int .u64 x.Trail.Set.e3),.pv (.int .i64 x.Trail.Lo),.pv (.int .i64 x.Trail.Hi),.sl (List.map enc_api_Rx x.Trail.Kids),.pv (.bool x.Eof),.pv (.int .i64 x.Act),.pv (.int .i64 x.To)])∧
 (∀ x:api_Rule,av_api_Rule x=.agg [vL enc_i64 x.Conds,vB x.All,vB x.Bol,vI .i64 x.Rx.Kind,vI .u64 x.Rx.Set.e0,vI .u64 x.Rx.Set.e1,vI .u64 x.Rx.Set.e2,vI .u64 x.Rx.Set.e3,vI .i64 x.Rx.Lo,vI .i64 x.Rx.Hi,vL enc_api_Rx x.Rx.Kids,vI .i64 x.Trail.Kind,vI .u64 x.Trail.Set.e0,vI .u64 x.Trail.Set.e1,vI .u64 x.Trail.Set.e2,vI .u64 x.Trail.Set.e3,vI .i64 x.Trail.Lo,vI .i64 x.Trail.Hi,vL enc_api_Rx x.Trail.Kids,vB x.Eof,vI .i64 x.Act,vI .i64 x.To])∧
 (∀ x:api_Rule,ao_api_Rule x=.agg [oL 3 enc_i64 x.Conds,vB x.All,vB x.Bol,vI .i64 x.Rx.Kind,vI .u64 x.Rx.Set.e0,vI .u64 x.Rx.Set.e1,vI .u64 x.Rx.Set.e2,vI .u64 x.Rx.Set.e3,vI .i64 x.Rx.Lo,vI .i64 x.Rx.Hi,oL 36 enc_api_Rx x.Rx.Kids,vI .i64 x.Trail.Kind,vI .u64 x.Trail.Set.e0,vI .u64 x.Trail.Set.e1,vI .u64 x.Trail.Set.e2,vI .u64 x.Trail.Set.e3,vI .i64 x.Trail.Lo,vI .i64 x.Trail.Hi,oL 36 enc_api_Rx x.Trail.Kids,vB x.Eof,vI .i64 x.Act,vI .i64 x.To])∧
 (∀ l:(List api_Rule),encs_api_Rule l=.sl (List.map enc_api_Rule l))∧
 (∀ x:api_Spec,enc_api_Spec x=.agg [.sl (List.map enc_api_Cond x.Conds),.pv (.bool x.Default),.sl (List.map enc_api_Rule x.Rules)])∧
 (∀ x:api_Spec,fv_api_Spec x=.agg [.sl (List.map enc_api_Cond x.Conds),.pv (.bool x.Default),.sl (List.map enc_api_Rule x.Rules)])∧
 (∀ x:api_Spec,av_api_Spec x=.agg [vL enc_api_Cond x.Conds,vB x.Default,vL enc_api_Rule x.Rules])∧
 (∀ x:api_Spec,ao_api_Spec x=.agg [oL 69 enc_api_Cond x.Conds,vB x.Default,oL 38 enc_api_Rule x.Rules])∧
 (∀ l:(List api_Rx),encs_api_Rx l=.sl (List.map enc_api_Rx l))∧
 (∀ l:(List Bool),encs_bool l=.sl (List.map enc_bool l))∧
 (∀ l:(List arr4_uint64),encs_arr4_uint64 l=.sl (List.map enc_arr4_uint64 l))∧
 (∀ l:(List (List Int)),encs__i64 l=.sl (List.map encs_i64 l))∧
 (∀ x:api_Auto,enc_api_Auto x=.agg [.sl (List.map enc_arr4_uint64 x.Sets),.sl (List.map enc_i64 x.Owner),.sl (List.map encs_i64 x.Follow),.sl (List.map enc_bool x.Ends),.sl (List.map encs_i64 x.Starts)])∧
 (∀ x:api_Auto,fv_api_Auto x=.agg [.sl (List.map enc_arr4_uint64 x.Sets),.sl (List.map enc_i64 x.Owner),.sl (List.map encs_i64 x.Follow),.sl (List.map enc_bool x.Ends),.sl (List.map encs_i64 x.Starts)])∧
 (∀ x:api_Auto,av_api_Auto x=.agg [vL enc_arr4_uint64 x.Sets,vL enc_i64 x.Owner,vL encs_i64 x.Follow,vL enc_bool x.Ends,vL encs_i64 x.Starts])∧
 (∀ x:api_Auto,ao_api_Auto x=.agg [oL 33 enc_arr4_uint64 x.Sets,oL 3 enc_i64 x.Owner,oL 30 encs_i64 x.Follow,oL 4 enc_bool x.Ends,oL 30 encs_i64 x.Starts])∧
 (∀ x:hecklelaw03_Maker,enc_hecklelaw03_Maker x=.agg [.sl (List.map enc_u8 x.L),.pv (.int .i64 x.At)])∧
 (∀ x:hecklelaw03_Maker,fv_hecklelaw03_Maker x=.agg [.sl (List.map enc_u8 x.L),.pv (.int .i64 x.At)])∧
 (∀ x:hecklelaw03_Maker,av_hecklelaw03_Maker x=.agg [vL enc_u8 x.L,vI .i64 x.At])∧
 (∀ x:hecklelaw03_Maker,ao_hecklelaw03_Maker x=.agg [oL 5 enc_u8 x.L,vI .i64 x.At])∧
 (∀ x:auto_builder,enc_auto_builder x=.agg [.sl (List.map enc_arr4_uint64 x.Auto.Sets),.sl (List.map enc_i64 x.Auto.Owner),.sl (List.map encs_i64 x.Auto.Follow),.sl (List.map enc_bool x.Auto.Ends),.sl (List.map encs_i64 x.Auto.Starts)])∧
 (∀ x:auto_builder,fv_auto_builder x=.agg [.sl (List.map enc_arr4_uint64 x.Auto.Sets),.sl (List.map enc_i64 x.Auto.Owner),.sl (List.map encs_i64 x.Auto.Follow),.sl (List.map enc_bool x.Auto.Ends),.sl (List.map encs_i64 x.Auto.Starts)])∧
 (∀ x:auto_builder,av_auto_builder x=.agg [vL enc_arr4_uint64 x.Auto.Sets,vL enc_i64 x.Auto.Owner,vL encs_i64 x.Auto.Follow,vL enc_bool x.Auto.Ends,vL encs_i64 x.Auto.Starts])∧
 (∀ x:auto_builder,ao_auto_builder x=.agg [oL 33 enc_arr4_uint64 x.Auto.Sets,oL 3 enc_i64 x.Auto.Owner,oL 30 encs_i64 x.Auto.Follow,oL 4 enc_bool x.Auto.Ends,oL 30 encs_i64 x.Auto.Starts])∧
 (∀ x:rx_pattern,enc_rx_pattern x=.agg [.pv (.int .i64 x.Kind),.pv (.int .u64 x.Set.e0),.pv (.int .u64 x.Set.e1),.pv (.int .u64 x.Set.e2),.pv (.int .u64 x.Set.e3),.pv (.int .i64 x.Lo),.pv (.int .i64 x.Hi),.sl (List.map enc_api_Rx x.Kids)])∧
 (∀ x:rx_pattern,fv_rx_pattern x=.agg [.pv (.int .i64 x.Kind),.pv (.int .u64 x.Set.e0),.pv (.int .u64 x.Set.e1),.pv (.int .u64 x.Set.e2),.pv (.int .u64 x.Set.e3),.pv (.int .i64 x.Lo),.pv (.int .i64 x.Hi),.sl (List.map enc_api_Rx x.Kids)])∧
 (∀ x:rx_pattern,av_rx_pattern x=.agg [vI .i64 x.Kind,vI .u64 x.Set.e0,vI .u64 x.Set.e1,vI .u64 x.Set.e2,vI .u64 x.Set.e3,vI .i64 x.Lo,vI .i64 x.Hi,vL enc_api_Rx x.Kids])∧
 (∀ x:rx_pattern,ao_rx_pattern x=.agg [vI .i64 x.Kind,vI .u64 x.Set.e0,vI .u64 x.Set.e1,vI .u64 x.Set.e2,vI .u64 x.Set.e3,vI .i64 x.Lo,vI .i64 x.Hi,oL 36 enc_api_Rx x.Kids])∧
 (∀ x:api_Places,enc_api_Places x=.agg [.sl (List.map enc_arr4_uint64 x.Sets),.sl (List.map enc_i64 x.First),.sl (List.map enc_i64 x.Last),.sl (List.map encs_i64 x.Follow),.pv (.bool x.Null)])∧
 (∀ x:api_Places,fv_api_Places x=.agg [.sl (List.map enc_arr4_uint64 x.Sets),.sl (List.map enc_i64 x.First),.sl (List.map enc_i64 x.Last),.sl (List.map encs_i64 x.Follow),.pv (.bool x.Null)])∧
 (∀ x:api_Places,av_api_Places x=.agg [vL enc_arr4_uint64 x.Sets,vL enc_i64 x.First,vL enc_i64 x.Last,vL encs_i64 x.Follow,vB x.Null])∧
 (∀ x:api_Places,ao_api_Places x=.agg [oL 33 enc_arr4_uint64 x.Sets,oL 3 enc_i64 x.First,oL 3 enc_i64 x.Last,oL 30 encs_i64 x.Follow,vB x.Null])∧
 (∀ x:struct121,enc_struct121 x=.agg [])∧
 (∀ x:struct121,fv_struct121 x=.agg [])∧
 (∀ x:struct121,av_struct121 x=.agg [])∧
 (∀ x:struct121,ao_struct121 x=.agg [])∧
 (∀ x:spec_rule,enc_spec_rule x=.agg [.sl (List.map enc_i64 x.Conds),.pv (.bool x.All),.pv (.bool x.Bol),.pv (.int .i64 x.Rx.Kind),.pv (.int .u64 x.Rx.Set.e0),.pv (.int .u64 x.Rx.Set.e1),.pv (.int .u64 x.Rx.Set.e2),.pv (.int .u64 x.Rx.Set.e3),.pv (.int .i64 x.Rx.Lo),.pv (.int .i64 x.Rx.Hi),.sl (List.map enc_api_Rx x.Rx.Kids),.pv (.int .i64 x.Trail.Kind),.pv (.int .u64 x.Trail.Set.e0),.pv (.int .u64 x.Trail.Set.e1),.pv (.int .u64 x.Trail.Set.e2),.pv (.int .u64 x.Trail.Set.e3),.pv (.int .i64 x.Trail.Lo),.pv (.int .i64 x.Trail.Hi),.sl (List.map enc_api_Rx x.Trail.Kids),.pv (.bool x.Eof),.pv (.int .i64 x.Act),.pv (.int .i64 x.To)])∧
 (∀ x:spec_rule,fv_spec_rule x=.agg [.sl (List.map enc_i64 x.Conds),.pv (.bool x.All),.pv (.bool x.Bol),.pv (.int .i64 x.Rx.Kind),.pv (.int .u64 x.Rx.Set.e0),.pv (.int .u64 x.Rx.Set.e1),.pv (.int .u64 x.Rx.Set.e2),.pv (.int .u64 x.Rx.Set.e3),.pv (.int .i64 x.Rx.Lo),.pv (.int .i64 x.Rx.Hi),.sl (List.map enc_api_Rx x.Rx.Kids),.pv (.int .i64 x.Trail.Kind),.pv (.int .u64 x.Trail.Set.e0),.pv (.int .u64 x.Trail.Set.e1),.pv (.int .u64 x.Trail.Set.e2),.pv (.int .u64 x.Trail.Set.e3),.pv (.int .i64 x.Trail.Lo),.pv (.int .i64 x.Trail.Hi),.sl (List.map enc_api_Rx x.Trail.Kids),.pv (.bool x.Eof),.pv (.int .i64 x.Act),.pv (.int .i64 x.To)])∧
 (∀ x:spec_rule,av_spec_rule x=.agg [vL enc_i64 x.Conds,vB x.All,vB x.Bol,vI .i64 x.Rx.Kind,vI .u64 x.Rx.Set.e0,vI .u64 x.Rx.Set.e1,vI .u64 x.Rx.Set.e2,vI .u64 x.Rx.Set.e3,vI .i64 x.Rx.Lo,vI .i64 x.Rx.Hi,vL enc_api_Rx x.Rx.Kids,vI .i64 x.Trail.Kind,vI .u64 x.Trail.Set.e0,vI .u64 x.Trail.Set.e1,vI .u64 x.Trail.Set.e2,vI .u64 x.Trail.Set.e3,vI .i64 x.Trail.Lo,vI .i64 x.Trail.Hi,vL enc_api_Rx x.Trail.Kids,vB x.Eof,vI .i64 x.Act,vI .i64 x.To])∧
 (∀ x:spec_rule,ao_spec_rule x=.agg [oL 3 enc_i64 x.Conds,vB x.All,vB x.Bol,vI .i64 x.Rx.Kind,vI .u64 x.Rx.Set.e0,vI .u64 x.Rx.Set.e1,vI .u64 x.Rx.Set.e2,vI .u64 x.Rx.Set.e3,vI .i64 x.Rx.Lo,vI .i64 x.Rx.Hi,oL 36 enc_api_Rx x.Rx.Kids,vI .i64 x.Trail.Kind,vI .u64 x.Trail.Set.e0,vI .u64 x.Trail.Set.e1,vI .u64 x.Trail.Set.e2,vI .u64 x.Trail.Set.e3,vI .i64 x.Trail.Lo,vI .i64 x.Trail.Hi,oL 36 enc_api_Rx x.Trail.Kids,vB x.Eof,vI .i64 x.Act,vI .i64 x.To])∧
 (∀ x:place_builder,enc_place_builder x=.agg [.sl (List.map enc_arr4_uint64 x.sets),.sl (List.map encs_i64 x.follow)])∧
 (∀ x:place_builder,fv_place_builder x=.agg [.sl (List.map enc_arr4_uint64 x.sets),.sl (List.map encs_i64 x.follow)])∧
 (∀ x:place_builder,av_place_builder x=.agg [vL enc_arr4_uint64 x.sets,vL encs_i64 x.follow])∧
 (∀ x:place_builder,ao_place_builder x=.agg [oL 33 enc_arr4_uint64 x.sets,oL 30 encs_i64 x.follow])∧
 (∀ x:place_piece,enc_place_piece x=.agg [.sl (List.map enc_i64 x.first),.sl (List.map enc_i64 x.last),.pv (.bool x.null)])∧
 (∀ x:place_piece,fv_place_piece x=.agg [.sl (List.map enc_i64 x.first),.sl (List.map enc_i64 x.last),.pv (.bool x.null)])∧
 (∀ x:place_piece,av_place_piece x=.agg [vL enc_i64 x.first,vL enc_i64 x.last,vB x.null])∧
 (∀ x:place_piece,ao_place_piece x=.agg [oL 3 enc_i64 x.first,oL 3 enc_i64 x.last,vB x.null])∧
 (∀ x:arr2_int,enc_arr2_int x=.agg [.pv (.int .i64 x.e0),.pv (.int .i64 x.e1)])∧
 (∀ x:arr2_int,fv_arr2_int x=.agg [.pv (.int .i64 x.e0),.pv (.int .i64 x.e1)])∧
 (∀ x:arr2_int,av_arr2_int x=.agg [vI .i64 x.e0,vI .i64 x.e1])∧
 (∀ x:arr2_int,ao_arr2_int x=.agg [vI .i64 x.e0,vI .i64 x.e1])∧
 (∀ l:(List arr2_int),encs_arr2_int l=.sl (List.map enc_arr2_int l))∧
 (∀ l:(List place_piece),encs_place_piece l=.sl (List.map enc_place_piece l))∧
 (∀ n:Int,enc_u32 n=.pv (.int .u32 n))∧
 (∀ x:ByteArray,encm_string_set x=.agg [.pv (.string x),.agg []])∧
 (∀ (k:ByteArray) (l:List ByteArray),putE (.string k) (.agg []) (List.map encm_string_set l)=List.map encm_string_set (sput k l))∧
 (∀ l:(List ByteArray),encs__string_set l=.sl (List.map encm_string_set l))∧
 (∀ s:ByteArray,strElems s=List.map enc_u8 (strInts s)):=
 ⟨fun _=>rfl,fun _=>rfl,fun _=>rfl,enc_runtime_boundsError_eq,fun _=>rfl,fun _=>rfl,fun _=>rfl,fun _=>rfl,fun _=>rfl,enc_runtime_errorAddressString_eq,fun _=>rfl,fun _=>rfl,fun _=>rfl,fun _=>rfl,fun _=>rfl,enc_api_Cond_eq,fun _=>rfl,fun _=>rfl,fun _=>rfl,fun _=>rfl,fun _=>rfl,enc_arr4_uint64_eq,fun _=>rfl,fun _=>rfl,fun _=>rfl,enc_api_Rx_eq,fun _=>rfl,fun _=>rfl,fun _=>rfl,enc_api_Rule_eq,fun _=>rfl,fun _=>rfl,fun _=>rfl,fun _=>rfl,enc_api_Spec_eq,fun _=>rfl,fun _=>rfl,fun _=>rfl,fun _=>rfl,fun _=>rfl,fun _=>rfl,fun _=>rfl,enc_api_Auto_eq,fun _=>rfl,fun _=>rfl,fun _=>rfl,enc_hecklelaw03_Maker_eq,fun _=>rfl,fun _=>rfl,fun _=>rfl,enc_auto_builder_eq,fun _=>rfl,fun _=>rfl,fun _=>rfl,enc_rx_pattern_eq,fun _=>rfl,fun _=>rfl,fun _=>rfl,enc_api_Places_eq,fun _=>rfl,fun _=>rfl,fun _=>rfl,enc_struct121_eq,fun _=>rfl,fun _=>rfl,fun _=>rfl,enc_spec_rule_eq,fun _=>rfl,fun _=>rfl,fun _=>rfl,enc_place_builder_eq,fun _=>rfl,fun _=>rfl,fun _=>rfl,enc_place_piece_eq,fun _=>rfl,fun _=>rfl,fun _=>rfl,enc_arr2_int_eq,fun _=>rfl,fun _=>rfl,fun _=>rfl,fun _=>rfl,fun _=>rfl,fun _=>rfl,fun _=>rfl,putencm_string_set,fun _=>rfl,strElems_ints⟩
noncomputable def tyTab:List (Nat×TI):=[(1,⟨Try.t1.desc,1,8,Option.some (AV.f (FV.pv Value.nilFunc))⟩),
 (2,⟨Try.t2.desc,1,8,Option.some (AV.f (FV.pv (Value.int IntKind.i64 (0:Int))))⟩),
 (3,⟨Try.t3.desc,1,8,Option.some (AV.f (FV.pv (Value.int IntKind.i64 (0:Int))))⟩),
 (4,⟨Try.t4.desc,1,1,Option.some (AV.f (FV.pv (Value.bool Bool.false)))⟩),
 (5,⟨Try.t5.desc,1,1,Option.some (AV.f (FV.pv (Value.int IntKind.u8 (0:Int))))⟩),
 (7,⟨Try.t7.desc,4,24,Option.some (AV.agg [AV.f (FV.pv (Value.int IntKind.i64 (0:Int))),AV.f (FV.pv (Value.int IntKind.i64 (0:Int))),AV.f (FV.pv (Value.bool Bool.false)),AV.f (FV.pv (Value.int IntKind.u8 (0:Int)))])⟩),
 (9,⟨Try.t9.desc,1,16,Option.some (AV.f (FV.pv (Value.string { data:=#[] })))⟩),
 (12,⟨Try.t12.desc,1,8,Option.some (AV.f (FV.pv (Value.int IntKind.u64 (0:Int))))⟩),
 (13,⟨Try.t13.desc,2,24,Option.some (AV.agg [AV.f (FV.pv (Value.string { data:=#[] })),AV.f (FV.pv (Value.int IntKind.u64 (0:Int)))])⟩),
 (18,⟨Try.t18.desc,1,8,Option.some (AV.agg [AV.f (FV.pv (Value.pointer Option.none))])⟩),
 (21,⟨Try.t21.desc,1,4,Option.some (AV.f (FV.pv (Value.int IntKind.i32 (0:Int))))⟩),
 (22,⟨Try.t22.desc,1,24,Option.some (AV.own (5:Nat) [])⟩),
 (23,⟨Try.t23.desc,1,24,Option.some (AV.own (69:Nat) [])⟩),
 (24,⟨Try.t24.desc,1,24,Option.some (AV.own (38:Nat) [])⟩),
 (25,⟨Try.t25.desc,3,56,Option.some (AV.agg [AV.own (69:Nat) [],AV.f (FV.pv (Value.bool Bool.false)),AV.own (38:Nat) []])⟩),
 (26,⟨Try.t25.desc,3,56,Option.some (AV.agg [AV.own (69:Nat) [],AV.f (FV.pv (Value.bool Bool.false)),AV.own (38:Nat) []])⟩),
 (27,⟨Try.t27.desc,1,8,Option.some (AV.f (FV.pv Value.nilFunc))⟩),
 (28,⟨Try.t28.desc,1,8,Option.some (AV.f (FV.pv Value.nilFunc))⟩),
 (29,⟨Try.t29.desc,1,8,Option.some (AV.f (FV.pv Value.nilFunc))⟩),
 (30,⟨Try.t30.desc,1,24,Option.some (AV.own (3:Nat) [])⟩),
 (31,⟨Try.t31.desc,1,8,Option.some (AV.f (FV.pv (Value.int IntKind.u64 (0:Int))))⟩),
 (32,⟨Try.t32.desc,4,32,Option.some (AV.agg [AV.f (FV.pv (Value.int IntKind.u64 (0:Int))),AV.f (FV.pv (Value.int IntKind.u64 (0:Int))),AV.f (FV.pv (Value.int IntKind.u64 (0:Int))),AV.f (FV.pv (Value.int IntKind.u64 (0:Int)))])⟩),
 (33,⟨Try.t32.desc,4,32,Option.some (AV.agg [AV.f (FV.pv (Value.int IntKind.u64 (0:Int))),AV.f (FV.pv (Value.int IntKind.u64 (0:Int))),AV.f (FV.pv (Value.int IntKind.u64 (0:Int))),AV.f (FV.pv (Value.int IntKind.u64 (0:Int)))])⟩),
 (34,⟨Try.t34.desc,1,24,Option.some (AV.own (36:Nat) [])⟩),
 (35,⟨Try.t35.desc,8,80,Option.some (AV.agg [AV.f (FV.pv (Value.int IntKind.i64 (0:Int))),AV.f (FV.pv (Value.int IntKind.u64 (0:Int))),AV.f (FV.pv (Value.int IntKind.u64 (0:Int))),AV.f (FV.pv (Value.int IntKind.u64 (0:Int))),AV.f (FV.pv (Value.int IntKind.u64 (0:Int))),AV.f (FV.pv (Value.int IntKind.i64 (0:Int))),AV.f (FV.pv (Value.int IntKind.i64 (0:Int))),AV.own (36:Nat) []])⟩),
 (36,⟨Try.t35.desc,8,80,Option.some (AV.agg [AV.f (FV.pv (Value.int IntKind.i64 (0:Int))),AV.f (FV.pv (Value.int IntKind.u64 (0:Int))),AV.f (FV.pv (Value.int IntKind.u64 (0:Int))),AV.f (FV.pv (Value.int IntKind.u64 (0:Int))),AV.f (FV.pv (Value.int IntKind.u64 (0:Int))),AV.f (FV.pv (Value.int IntKind.i64 (0:Int))),AV.f (FV.pv (Value.int IntKind.i64 (0:Int))),AV.own (36:Nat) []])⟩),
 (37,⟨Try.t37.desc,22,216,Option.some (AV.agg [AV.own (3:Nat) [],AV.f (FV.pv (Value.bool Bool.false)),AV.f (FV.pv (Value.bool Bool.false)),AV.f (FV.pv (Value.int IntKind.i64 (0:Int))),AV.f (FV.pv (Value.int IntKind.u64 (0:Int))),AV.f (FV.pv (Value.int IntKind.u64 (0:Int))),AV.f (FV.pv (Value.int IntKind.u64 (0:Int))),AV.f (FV.pv (Value.int IntKind.u64 (0:Int))),AV.f (FV.pv (Value.int IntKind.i64 (0:Int))),AV.f (FV.pv (Value.int IntKind.i64 (0:Int))),AV.own (36:Nat) [],AV.f (FV.pv (Value.int IntKind.i64 (0:Int))),AV.f (FV.pv (Value.int IntKind.u64 (0:Int))),AV.f (FV.pv (Value.int IntKind.u64 (0:Int))),AV.f (FV.pv (Value.int IntKind.u64 (0:Int))),AV.f (FV.pv (Value.int IntKind.u64 (0:Int))),AV.f (FV.pv (Value.int IntKind.i64 (0:Int))),AV.f (FV.pv (Value.int IntKind.i64 (0:Int))),AV.own (36:Nat) [],AV.f (FV.pv (Value.bool Bool.false)),AV.f (FV.pv (Value.int IntKind.i64 (0:Int))),AV.f (FV.pv (Value.int IntKind.i64 (0:Int)))])⟩),
 (38,⟨Try.t37.desc,22,216,Option.some (AV.agg [AV.own (3:Nat) [],AV.f (FV.pv (Value.bool Bool.false)),AV.f (FV.pv (Value.bool Bool.false)),AV.f (FV.pv (Value.int IntKind.i64 (0:Int))),AV.f (FV.pv (Value.int IntKind.u64 (0:Int))),AV.f (FV.pv (Value.int IntKind.u64 (0:Int))),AV.f (FV.pv (Value.int IntKind.u64 (0:Int))),AV.f (FV.pv (Value.int IntKind.u64 (0:Int))),AV.f (FV.pv (Value.int IntKind.i64 (0:Int))),AV.f (FV.pv (Value.int IntKind.i64 (0:Int))),AV.own (36:Nat) [],AV.f (FV.pv (Value.int IntKind.i64 (0:Int))),AV.f (FV.pv (Value.int IntKind.u64 (0:Int))),AV.f (FV.pv (Value.int IntKind.u64 (0:Int))),AV.f (FV.pv (Value.int IntKind.u64 (0:Int))),AV.f (FV.pv (Value.int IntKind.u64 (0:Int))),AV.f (FV.pv (Value.int IntKind.i64 (0:Int))),AV.f (FV.pv (Value.int IntKind.i64 (0:Int))),AV.own (36:Nat) [],AV.f (FV.pv (Value.bool Bool.false)),AV.f (FV.pv (Value.int IntKind.i64 (0:Int))),AV.f (FV.pv (Value.int IntKind.i64 (0:Int)))])⟩),
 (39,⟨Try.t39.desc,1,8,Option.some (AV.f (FV.pv Value.nilFunc))⟩),
 (40,⟨Try.t40.desc,1,8,Option.some (AV.f (FV.pv Value.nilFunc))⟩),
 (41,⟨Try.t41.desc,1,8,Option.some (AV.f (FV.pv Value.nilFunc))⟩),
 (42,⟨Try.t3.desc,1,8,Option.some (AV.f (FV.pv (Value.int IntKind.i64 (0:Int))))⟩),
 (44,⟨Try.t44.desc,1,8,Option.some (AV.f (FV.pv Value.nilFunc))⟩),
 (45,⟨Try.t45.desc,1,8,Option.some (AV.f (FV.pv Value.nilFunc))⟩),
 (46,⟨Try.t46.desc,1,8,Option.some (AV.f (FV.pv Value.nilFunc))⟩),
 (47,⟨Try.t47.desc,1,8,Option.some (AV.f (FV.pv Value.nilFunc))⟩),
 (48,⟨Try.t48.desc,1,8,Option.some (AV.f (FV.pv Value.nilFunc))⟩),
 (49,⟨Try.t49.desc,1,24,Option.some (AV.own (4:Nat) [])⟩),
 (50,⟨Try.t50.desc,1,8,Option.some (AV.f (FV.pv Value.nilFunc))⟩),
 (51,⟨Try.t51.desc,1,8,Option.some (AV.f (FV.pv Value.nilFunc))⟩),
 (52,⟨Try.t52.desc,1,24,Option.some (AV.own (33:Nat) [])⟩),
 (53,⟨Try.t53.desc,1,24,Option.some (AV.own (30:Nat) [])⟩),
 (54,⟨Try.t54.desc,5,120,Option.some (AV.agg [AV.own (33:Nat) [],AV.own (3:Nat) [],AV.own (30:Nat) [],AV.own (4:Nat) [],AV.own (30:Nat) []])⟩),
 (55,⟨Try.t54.desc,5,120,Option.some (AV.agg [AV.own (33:Nat) [],AV.own (3:Nat) [],AV.own (30:Nat) [],AV.own (4:Nat) [],AV.own (30:Nat) []])⟩),
 (56,⟨Try.t56.desc,1,8,Option.some (AV.f (FV.pv Value.nilFunc))⟩),
 (58,⟨Try.t58.desc,1,8,Option.some (AV.f (FV.pv Value.nilFunc))⟩),
 (59,⟨Try.t59.desc,1,8,Option.some (AV.f (FV.pv Value.nilFunc))⟩),
 (61,⟨Try.t61.desc,1,8,Option.some (AV.f (FV.pv Value.nilFunc))⟩),
 (62,⟨Try.t62.desc,1,8,Option.some (AV.f (FV.pv Value.nilFunc))⟩),
 (63,⟨Try.t63.desc,1,8,Option.some (AV.f (FV.pv Value.nilFunc))⟩),
 (64,⟨Try.t64.desc,1,8,Option.some (AV.f (FV.pv (Value.pointer Option.none)))⟩),
 (65,⟨Try.t65.desc,2,32,Option.some (AV.agg [AV.own (5:Nat) [],AV.f (FV.pv (Value.int IntKind.i64 (0:Int)))])⟩),
 (66,⟨Try.t65.desc,2,32,Option.some (AV.agg [AV.own (5:Nat) [],AV.f (FV.pv (Value.int IntKind.i64 (0:Int)))])⟩),
 (67,⟨Try.t67.desc,1,8,Option.some (AV.f (FV.pv Value.nilFunc))⟩),
 (68,⟨Try.t68.desc,2,24,Option.some (AV.agg [AV.f (FV.pv (Value.string { data:=#[] })),AV.f (FV.pv (Value.bool Bool.false))])⟩),
 (69,⟨Try.t68.desc,2,24,Option.some (AV.agg [AV.f (FV.pv (Value.string { data:=#[] })),AV.f (FV.pv (Value.bool Bool.false))])⟩),
 (70,⟨Try.t70.desc,1,8,Option.some (AV.f (FV.pv Value.nilFunc))⟩),
 (71,⟨Try.t71.desc,1,8,Option.some (AV.f (FV.pv Value.nilFunc))⟩),
 (72,⟨Try.t72.desc,1,8,Option.some (AV.f (FV.pv Value.nilFunc))⟩),
 (73,⟨Try.t73.desc,1,8,Option.some (AV.f (FV.pv Value.nilFunc))⟩),
 (74,⟨Try.t74.desc,1,8,Option.some (AV.f (FV.pv Value.nilFunc))⟩),
 (75,⟨Try.t75.desc,1,8,Option.some (AV.f (FV.pv Value.nilFunc))⟩),
 (76,⟨Try.t76.desc,1,8,Option.some (AV.f (FV.pv Value.nilFunc))⟩),
 (77,⟨Try.t77.desc,1,8,Option.some (AV.f (FV.pv Value.nilFunc))⟩),
 (78,⟨Try.t78.desc,1,8,Option.some (AV.f (FV.pv Value.nilFunc))⟩),
 (79,⟨Try.t79.desc,1,8,Option.some (AV.f (FV.pv Value.nilFunc))⟩),
 (80,⟨Try.t80.desc,1,8,Option.some (AV.f (FV.pv Value.nilFunc))⟩),
 (81,⟨Try.t81.desc,1,8,Option.some (AV.f (FV.pv Value.nilFunc))⟩),
 (82,⟨Try.t82.desc,1,8,Option.some (AV.f (FV.pv Value.nilFunc))⟩),
 (83,⟨Try.t83.desc,1,8,Option.some (AV.f (FV.pv Value.nilFunc))⟩),
 (84,⟨Try.t84.desc,1,8,Option.some (AV.f (FV.pv Value.nilFunc))⟩),
 (85,⟨Try.t84.desc,1,8,Option.some (AV.f (FV.pv Value.nilFunc))⟩),
 (86,⟨Try.t86.desc,1,8,Option.some (AV.f (FV.pv Value.nilFunc))⟩),
 (87,⟨Try.t87.desc,1,8,Option.some (AV.f (FV.pv Value.nilFunc))⟩),
 (89,⟨Try.t89.desc,1,8,Option.some (AV.f (FV.pv Value.nilFunc))⟩),
 (90,⟨Try.t90.desc,1,8,Option.some (AV.f (FV.pv Value.nilFunc))⟩),
 (91,⟨Try.t91.desc,1,8,Option.some (AV.f (FV.pv Value.nilFunc))⟩),
 (92,⟨Try.t92.desc,1,8,Option.some (AV.f (FV.pv Value.nilFunc))⟩),
 (93,⟨Try.t93.desc,1,8,Option.some (AV.f (FV.pv (Value.pointer Option.none)))⟩),
 (94,⟨Try.t94.desc,5,120,Option.some (AV.agg [AV.own (33:Nat) [],AV.own (3:Nat) [],AV.own (30:Nat) [],AV.own (4:Nat) [],AV.own (30:Nat) []])⟩),
 (95,⟨Try.t94.desc,5,120,Option.some (AV.agg [AV.own (33:Nat) [],AV.own (3:Nat) [],AV.own (30:Nat) [],AV.own (4:Nat) [],AV.own (30:Nat) []])⟩),
 (96,⟨Try.t96.desc,1,8,Option.some (AV.f (FV.pv Value.nilFunc))⟩),
 (97,⟨Try.t97.desc,1,8,Option.some (AV.f (FV.pv Value.nilFunc))⟩),
 (98,⟨Try.t98.desc,1,8,Option.some (AV.f (FV.pv Value.nilFunc))⟩),
 (99,⟨Try.t35.desc,8,80,Option.some (AV.agg [AV.f (FV.pv (Value.int IntKind.i64 (0:Int))),AV.f (FV.pv (Value.int IntKind.u64 (0:Int))),AV.f (FV.pv (Value.int IntKind.u64 (0:Int))),AV.f (FV.pv (Value.int IntKind.u64 (0:Int))),AV.f (FV.pv (Value.int IntKind.u64 (0:Int))),AV.f (FV.pv (Value.int IntKind.i64 (0:Int))),AV.f (FV.pv (Value.int IntKind.i64 (0:Int))),AV.own (36:Nat) []])⟩),
 (100,⟨Try.t100.desc,5,104,Option.some (AV.agg [AV.own (33:Nat) [],AV.own (3:Nat) [],AV.own (3:Nat) [],AV.own (30:Nat) [],AV.f (FV.pv (Value.bool Bool.false))])⟩),
 (101,⟨Try.t100.desc,5,104,Option.some (AV.agg [AV.own (33:Nat) [],AV.own (3:Nat) [],AV.own (3:Nat) [],AV.own (30:Nat) [],AV.f (FV.pv (Value.bool Bool.false))])⟩),
 (103,⟨Try.t103.desc,1,8,Option.some (AV.f (FV.pv Value.nilFunc))⟩),
 (104,⟨Try.t104.desc,1,8,Option.some (AV.f (FV.pv Value.nilFunc))⟩),
 (105,⟨Try.t105.desc,1,8,Option.some (AV.f (FV.pv Value.nilFunc))⟩),
 (106,⟨Try.t105.desc,1,8,Option.some (AV.f (FV.pv Value.nilFunc))⟩),
 (107,⟨Try.t107.desc,1,8,Option.some (AV.f (FV.pv Value.nilFunc))⟩),
 (108,⟨Try.t108.desc,1,8,Option.some (AV.f (FV.pv Value.nilFunc))⟩),
 (109,⟨Try.t109.desc,1,8,Option.some (AV.f (FV.pv Value.nilFunc))⟩),
 (110,⟨Try.t110.desc,1,8,Option.some (AV.f (FV.pv Value.nilFunc))⟩),
 (111,⟨Try.t111.desc,1,8,Option.some (AV.f (FV.pv Value.nilFunc))⟩),
 (112,⟨Try.t112.desc,1,8,Option.some (AV.f (FV.pv Value.nilFunc))⟩),
 (113,⟨Try.t113.desc,1,8,Option.some (AV.f (FV.pv Value.nilFunc))⟩),
 (114,⟨Try.t114.desc,1,8,Option.some (AV.f (FV.pv Value.nilFunc))⟩),
 (115,⟨Try.t115.desc,1,8,Option.some (AV.f (FV.pv Value.nilFunc))⟩),
 (116,⟨Try.t116.desc,1,8,Option.some (AV.f (FV.pv Value.nilFunc))⟩),
 (117,⟨Try.t117.desc,1,8,Option.some (AV.f (FV.pv Value.nilFunc))⟩),
 (118,⟨Try.t118.desc,1,8,Option.some (AV.f (FV.pv Value.nilFunc))⟩),
 (119,⟨Try.t119.desc,1,8,Option.some (AV.f (FV.pv (Value.map Option.none)))⟩),
 (120,⟨Try.t120.desc,1,8,Option.some (AV.f (FV.pv Value.nilFunc))⟩),
 (121,⟨Try.t121.desc,0,0,Option.some (AV.agg [])⟩),
 (122,⟨Try.t37.desc,22,216,Option.some (AV.agg [AV.own (3:Nat) [],AV.f (FV.pv (Value.bool Bool.false)),AV.f (FV.pv (Value.bool Bool.false)),AV.f (FV.pv (Value.int IntKind.i64 (0:Int))),AV.f (FV.pv (Value.int IntKind.u64 (0:Int))),AV.f (FV.pv (Value.int IntKind.u64 (0:Int))),AV.f (FV.pv (Value.int IntKind.u64 (0:Int))),AV.f (FV.pv (Value.int IntKind.u64 (0:Int))),AV.f (FV.pv (Value.int IntKind.i64 (0:Int))),AV.f (FV.pv (Value.int IntKind.i64 (0:Int))),AV.own (36:Nat) [],AV.f (FV.pv (Value.int IntKind.i64 (0:Int))),AV.f (FV.pv (Value.int IntKind.u64 (0:Int))),AV.f (FV.pv (Value.int IntKind.u64 (0:Int))),AV.f (FV.pv (Value.int IntKind.u64 (0:Int))),AV.f (FV.pv (Value.int IntKind.u64 (0:Int))),AV.f (FV.pv (Value.int IntKind.i64 (0:Int))),AV.f (FV.pv (Value.int IntKind.i64 (0:Int))),AV.own (36:Nat) [],AV.f (FV.pv (Value.bool Bool.false)),AV.f (FV.pv (Value.int IntKind.i64 (0:Int))),AV.f (FV.pv (Value.int IntKind.i64 (0:Int)))])⟩),
 (123,⟨Try.t123.desc,1,8,Option.some (AV.f (FV.pv Value.nilFunc))⟩),
 (124,⟨Try.t124.desc,1,8,Option.some (AV.f (FV.pv Value.nilFunc))⟩),
 (126,⟨Try.t126.desc,1,8,Option.some (AV.f (FV.pv Value.nilFunc))⟩),
 (127,⟨Try.t127.desc,1,8,Option.some (AV.f (FV.pv Value.nilFunc))⟩),
 (128,⟨Try.t128.desc,1,8,Option.some (AV.f (FV.pv Value.nilFunc))⟩),
 (129,⟨Try.t129.desc,1,8,Option.some (AV.f (FV.pv (Value.pointer Option.none)))⟩),
 (130,⟨Try.t130.desc,2,48,Option.some (AV.agg [AV.own (33:Nat) [],AV.own (30:Nat) []])⟩),
 (131,⟨Try.t130.desc,2,48,Option.some (AV.agg [AV.own (33:Nat) [],AV.own (30:Nat) []])⟩),
 (132,⟨Try.t132.desc,3,56,Option.some (AV.agg [AV.own (3:Nat) [],AV.own (3:Nat) [],AV.f (FV.pv (Value.bool Bool.false))])⟩),
 (133,⟨Try.t132.desc,3,56,Option.some (AV.agg [AV.own (3:Nat) [],AV.own (3:Nat) [],AV.f (FV.pv (Value.bool Bool.false))])⟩),
 (134,⟨Try.t134.desc,1,8,Option.some (AV.f (FV.pv Value.nilFunc))⟩),
 (135,⟨Try.t135.desc,1,8,Option.some (AV.f (FV.pv Value.nilFunc))⟩),
 (136,⟨Try.t136.desc,1,8,Option.some (AV.f (FV.pv Value.nilFunc))⟩),
 (137,⟨Try.t137.desc,1,8,Option.some (AV.f (FV.pv Value.nilFunc))⟩),
 (138,⟨Try.t138.desc,1,8,Option.some (AV.f (FV.pv Value.nilFunc))⟩),
 (139,⟨Try.t138.desc,1,8,Option.some (AV.f (FV.pv Value.nilFunc))⟩),
 (140,⟨Try.t140.desc,1,8,Option.some (AV.f (FV.pv Value.nilFunc))⟩),
 (141,⟨Try.t141.desc,1,8,Option.some (AV.f (FV.pv Value.nilFunc))⟩),
 (142,⟨Try.t142.desc,1,8,Option.some (AV.f (FV.pv Value.nilFunc))⟩),
 (143,⟨Try.t143.desc,1,24,Option.some (AV.own (145:Nat) [])⟩),
 (144,⟨Try.t144.desc,1,8,Option.some (AV.f (FV.pv Value.nilFunc))⟩),
 (145,⟨Try.t145.desc,2,16,Option.some (AV.agg [AV.f (FV.pv (Value.int IntKind.i64 (0:Int))),AV.f (FV.pv (Value.int IntKind.i64 (0:Int)))])⟩),
 (146,⟨Try.t146.desc,1,8,Option.some (AV.f (FV.pv Value.nilFunc))⟩),
 (147,⟨Try.t147.desc,1,8,Option.some (AV.f (FV.pv Value.nilFunc))⟩),
 (148,⟨Try.t148.desc,1,8,Option.some (AV.f (FV.pv Value.nilFunc))⟩),
 (149,⟨Try.t149.desc,1,8,Option.some (AV.f (FV.pv Value.nilFunc))⟩),
 (150,⟨Try.t150.desc,1,8,Option.some (AV.f (FV.pv Value.nilFunc))⟩),
 (151,⟨Try.t151.desc,1,8,Option.some (AV.f (FV.pv Value.nilFunc))⟩),
 (152,⟨Try.t152.desc,1,8,Option.some (AV.f (FV.pv Value.nilFunc))⟩),
 (153,⟨Try.t153.desc,1,8,Option.some (AV.f (FV.pv Value.nilFunc))⟩),
 (154,⟨Try.t154.desc,1,8,Option.some (AV.f (FV.pv Value.nilFunc))⟩),
 (155,⟨Try.t155.desc,1,8,Option.some (AV.f (FV.pv Value.nilFunc))⟩),
 (156,⟨Try.t156.desc,1,8,Option.some (AV.f (FV.pv (Value.int IntKind.u64 (0:Int))))⟩),
 (157,⟨Try.t157.desc,1,8,Option.some (AV.f (FV.pv Value.nilFunc))⟩),
 (158,⟨Try.t158.desc,1,8,Option.some (AV.f (FV.pv Value.nilFunc))⟩),
 (159,⟨Try.t159.desc,1,24,Option.some (AV.own (133:Nat) [])⟩),
 (160,⟨Try.t160.desc,1,8,Option.some (AV.f (FV.pv Value.nilFunc))⟩),
 (161,⟨Try.t161.desc,1,8,Option.some (AV.f (FV.pv (Value.pointer Option.none)))⟩),
 (162,⟨Try.t162.desc,1,8,Option.some (AV.f (FV.pv Value.nilFunc))⟩),
 (163,⟨Try.t162.desc,1,8,Option.some (AV.f (FV.pv Value.nilFunc))⟩),
 (164,⟨Try.t164.desc,1,8,Option.some (AV.f (FV.pv Value.nilFunc))⟩),
 (165,⟨Try.t165.desc,1,8,Option.some (AV.f (FV.pv Value.nilFunc))⟩),
 (166,⟨Try.t166.desc,1,8,Option.some (AV.f (FV.pv Value.nilFunc))⟩),
 (167,⟨Try.t3.desc,1,8,Option.some (AV.f (FV.pv (Value.int IntKind.i64 (0:Int))))⟩),
 (169,⟨Try.t169.desc,1,8,Option.some (AV.f (FV.pv Value.nilFunc))⟩),
 (170,⟨Try.t170.desc,1,8,Option.some (AV.f (FV.pv Value.nilFunc))⟩),
 (171,⟨Try.t171.desc,1,8,Option.some (AV.f (FV.pv Value.nilFunc))⟩),
 (172,⟨Try.t172.desc,1,8,Option.some (AV.f (FV.pv Value.nilFunc))⟩),
 (174,⟨Try.t174.desc,1,8,Option.some (AV.f (FV.pv Value.nilFunc))⟩),
 (175,⟨Try.t175.desc,1,8,Option.some (AV.f (FV.pv Value.nilFunc))⟩),
 (176,⟨Try.t176.desc,1,4,Option.some (AV.f (FV.pv (Value.int IntKind.u32 (0:Int))))⟩),
 (177,⟨Try.t177.desc,1,8,Option.some (AV.f (FV.pv Value.nilFunc))⟩),
 (178,⟨Try.t178.desc,1,8,Option.some (AV.f (FV.pv Value.nilFunc))⟩),
 (179,⟨Try.t31.desc,1,8,Option.some (AV.f (FV.pv (Value.int IntKind.u64 (0:Int))))⟩),
 (180,⟨Try.t180.desc,1,8,Option.some (AV.f (FV.pv Value.nilFunc))⟩),
 (181,⟨Try.t181.desc,1,8,Option.some (AV.f (FV.pv Value.nilFunc))⟩),
 (182,⟨Try.t182.desc,1,8,Option.some (AV.f (FV.pv Value.nilFunc))⟩),
 (183,⟨Try.t183.desc,1,8,Option.some (AV.f (FV.pv (Value.pointer Option.none)))⟩),
 (184,⟨Try.t184.desc,1,8,Option.some (AV.f (FV.pv Value.nilFunc))⟩),
 (185,⟨Try.t185.desc,1,8,Option.some (AV.f (FV.pv (Value.pointer Option.none)))⟩),
 (186,⟨Try.t186.desc,1,8,Option.some (AV.f (FV.pv Value.nilFunc))⟩),
 (187,⟨Try.t187.desc,1,8,Option.some (AV.f (FV.pv Value.nilFunc))⟩),
 (188,⟨Try.t188.desc,4,40,Option.some (AV.agg [AV.f (FV.pv (Value.pointer Option.none)),AV.f (FV.pv (Value.pointer Option.none)),AV.f (FV.pv (Value.pointer Option.none)),AV.f (FV.pv (Value.string { data:=#[] }))])⟩),
 (190,⟨Try.t190.desc,0,0,Option.some (AV.agg [])⟩),
 (191,⟨Try.t191.desc,0,0,Option.some (AV.agg [])⟩),
 (193,⟨Try.t193.desc,1,8,Option.some (AV.f (FV.pv Value.nilFunc))⟩),
 (196,⟨Try.t196.desc,1,8,Option.some (AV.f (FV.pv Value.nilFunc))⟩),
 (197,⟨Try.t197.desc,1,8,Option.some (AV.f (FV.pv (Value.pointer Option.none)))⟩),
 (200,⟨Try.t200.desc,11,48,Option.some (AV.agg [AV.f (FV.pv (Value.int IntKind.u64 (0:Int))),AV.f (FV.pv (Value.int IntKind.u64 (0:Int))),AV.f (FV.pv (Value.int IntKind.u32 (0:Int))),AV.f (FV.pv (Value.int IntKind.u8 (0:Int))),AV.f (FV.pv (Value.int IntKind.u8 (0:Int))),AV.f (FV.pv (Value.int IntKind.u8 (0:Int))),AV.f (FV.pv (Value.int IntKind.u8 (0:Int))),AV.f (FV.pv Value.nilFunc),AV.f (FV.pv (Value.pointer Option.none)),AV.f (FV.pv (Value.int IntKind.i32 (0:Int))),AV.f (FV.pv (Value.int IntKind.i32 (0:Int)))])⟩)]
theorem tyTab_ok:TabOk Try.prog tyTab:=⟨tiOf_eq Try.underlying1 Try.type1 (by kernel_rfl),
 ⟨tiOf_eq Try.underlying2 Try.type2 (by kernel_rfl),
 ⟨tiOf_eq Try.underlying3 Try.type3 (by kernel_rfl),
 ⟨tiOf_eq Try.underlying4 Try.type4 (by kernel_rfl),
 ⟨tiOf_eq Try.underlying5 Try.type5 (by kernel_rfl),
 ⟨tiOf_eq Try.underlying7 Try.type7 (by kernel_rfl),
 ⟨tiOf_eq Try.underlying9 Try.type9 (by kernel_rfl),
 ⟨tiOf_eq Try.underlying12 Try.type12 (by kernel_rfl),
 ⟨tiOf_eq Try.underlying13 Try.type13 (by kernel_rfl),
 ⟨tiOf_eq Try.underlying18 Try.type18 (by kernel_rfl),
 ⟨tiOf_eq Try.underlying21 Try.type21 (by kernel_rfl),
 ⟨tiOf_eq Try.underlying22 Try.type22 (by kernel_rfl),
 ⟨tiOf_eq Try.underlying23 Try.type23 (by kernel_rfl),
 ⟨tiOf_eq Try.underlying24 Try.type24 (by kernel_rfl),
 ⟨tiOf_eq Try.underlying25 Try.type25 (by kernel_rfl),
 ⟨tiOf_eq Try.underlying26 Try.type26 (by kernel_rfl),
 ⟨tiOf_eq Try.underlying27 Try.type27 (by kernel_rfl),
 ⟨tiOf_eq Try.underlying28 Try.type28 (by kernel_rfl),
 ⟨tiOf_eq Try.underlying29 Try.type29 (by kernel_rfl),
 ⟨tiOf_eq Try.underlying30 Try.type30 (by kernel_rfl),
 ⟨tiOf_eq Try.underlying31 Try.type31 (by kernel_rfl),
 ⟨tiOf_eq Try.underlying32 Try.type32 (by kernel_rfl),
 ⟨tiOf_eq Try.underlying33 Try.type33 (by kernel_rfl),
 ⟨tiOf_eq Try.underlying34 Try.type34 (by kernel_rfl),
 ⟨tiOf_eq Try.underlying35 Try.type35 (by kernel_rfl),
 ⟨tiOf_eq Try.underlying36 Try.type36 (by kernel_rfl),
 ⟨tiOf_eq Try.underlying37 Try.type37 (by kernel_rfl),
 ⟨tiOf_eq Try.underlying38 Try.type38 (by kernel_rfl),
 ⟨tiOf_eq Try.underlying39 Try.type39 (by kernel_rfl),
 ⟨tiOf_eq Try.underlying40 Try.type40 (by kernel_rfl),
 ⟨tiOf_eq Try.underlying41 Try.type41 (by kernel_rfl),
 ⟨tiOf_eq Try.underlying42 Try.type42 (by kernel_rfl),
 ⟨tiOf_eq Try.underlying44 Try.type44 (by kernel_rfl),
 ⟨tiOf_eq Try.underlying45 Try.type45 (by kernel_rfl),
 ⟨tiOf_eq Try.underlying46 Try.type46 (by kernel_rfl),
 ⟨tiOf_eq Try.underlying47 Try.type47 (by kernel_rfl),
 ⟨tiOf_eq Try.underlying48 Try.type48 (by kernel_rfl),
 ⟨tiOf_eq Try.underlying49 Try.type49 (by kernel_rfl),
 ⟨tiOf_eq Try.underlying50 Try.type50 (by kernel_rfl),
 ⟨tiOf_eq Try.underlying51 Try.type51 (by kernel_rfl),
 ⟨tiOf_eq Try.underlying52 Try.type52 (by kernel_rfl),
 ⟨tiOf_eq Try.underlying53 Try.type53 (by kernel_rfl),
 ⟨tiOf_eq Try.underlying54 Try.type54 (by kernel_rfl),
 ⟨tiOf_eq Try.underlying55 Try.type55 (by kernel_rfl),
 ⟨tiOf_eq Try.underlying56 Try.type56 (by kernel_rfl),
 ⟨tiOf_eq Try.underlying58 Try.type58 (by kernel_rfl),
 ⟨tiOf_eq Try.underlying59 Try.type59 (by kernel_rfl),
 ⟨tiOf_eq Try.underlying61 Try.type61 (by kernel_rfl),
 ⟨tiOf_eq Try.underlying62 Try.type62 (by kernel_rfl),
 ⟨tiOf_eq Try.underlying63 Try.type63 (by kernel_rfl),
 ⟨tiOf_eq Try.underlying64 Try.type64 (by kernel_rfl),
 ⟨tiOf_eq Try.underlying65 Try.type65 (by kernel_rfl),
 ⟨tiOf_eq Try.underlying66 Try.type66 (by kernel_rfl),
 ⟨tiOf_eq Try.underlying67 Try.type67 (by kernel_rfl),
 ⟨tiOf_eq Try.underlying68 Try.type68 (by kernel_rfl),
 ⟨tiOf_eq Try.underlying69 Try.type69 (by kernel_rfl),
 ⟨tiOf_eq Try.underlying70 Try.type70 (by kernel_rfl),
 ⟨tiOf_eq Try.underlying71 Try.type71 (by kernel_rfl),
 ⟨tiOf_eq Try.underlying72 Try.type72 (by kernel_rfl),
 ⟨tiOf_eq Try.underlying73 Try.type73 (by kernel_rfl),
 ⟨tiOf_eq Try.underlying74 Try.type74 (by kernel_rfl),
 ⟨tiOf_eq Try.underlying75 Try.type75 (by kernel_rfl),
 ⟨tiOf_eq Try.underlying76 Try.type76 (by kernel_rfl),
 ⟨tiOf_eq Try.underlying77 Try.type77 (by kernel_rfl),
 ⟨tiOf_eq Try.underlying78 Try.type78 (by kernel_rfl),
 ⟨tiOf_eq Try.underlying79 Try.type79 (by kernel_rfl),
 ⟨tiOf_eq Try.underlying80 Try.type80 (by kernel_rfl),
 ⟨tiOf_eq Try.underlying81 Try.type81 (by kernel_rfl),
 ⟨tiOf_eq Try.underlying82 Try.type82 (by kernel_rfl),
 ⟨tiOf_eq Try.underlying83 Try.type83 (by kernel_rfl),
 ⟨tiOf_eq Try.underlying84 Try.type84 (by kernel_rfl),
 ⟨tiOf_eq Try.underlying85 Try.type85 (by kernel_rfl),
 ⟨tiOf_eq Try.underlying86 Try.type86 (by kernel_rfl),
 ⟨tiOf_eq Try.underlying87 Try.type87 (by kernel_rfl),
 ⟨tiOf_eq Try.underlying89 Try.type89 (by kernel_rfl),
 ⟨tiOf_eq Try.underlying90 Try.type90 (by kernel_rfl),
 ⟨tiOf_eq Try.underlying91 Try.type91 (by kernel_rfl),
 ⟨tiOf_eq Try.underlying92 Try.type92 (by kernel_rfl),
 ⟨tiOf_eq Try.underlying93 Try.type93 (by kernel_rfl),
 ⟨tiOf_eq Try.underlying94 Try.type94 (by kernel_rfl),
 ⟨tiOf_eq Try.underlying95 Try.type95 (by kernel_rfl),
 ⟨tiOf_eq Try.underlying96 Try.type96 (by kernel_rfl),
 ⟨tiOf_eq Try.underlying97 Try.type97 (by kernel_rfl),
 ⟨tiOf_eq Try.underlying98 Try.type98 (by kernel_rfl),
 ⟨tiOf_eq Try.underlying99 Try.type99 (by kernel_rfl),
 ⟨tiOf_eq Try.underlying100 Try.type100 (by kernel_rfl),
 ⟨tiOf_eq Try.underlying101 Try.type101 (by kernel_rfl),
 ⟨tiOf_eq Try.underlying103 Try.type103 (by kernel_rfl),
 ⟨tiOf_eq Try.underlying104 Try.type104 (by kernel_rfl),
 ⟨tiOf_eq Try.underlying105 Try.type105 (by kernel_rfl),
 ⟨tiOf_eq Try.underlying106 Try.type106 (by kernel_rfl),
 ⟨tiOf_eq Try.underlying107 Try.type107 (by kernel_rfl),
 ⟨tiOf_eq Try.underlying108 Try.type108 (by kernel_rfl),
 ⟨tiOf_eq Try.underlying109 Try.type109 (by kernel_rfl),
 ⟨tiOf_eq Try.underlying110 Try.type110 (by kernel_rfl),
 ⟨tiOf_eq Try.underlying111 Try.type111 (by kernel_rfl),
 ⟨tiOf_eq Try.underlying112 Try.type112 (by kernel_rfl),
 ⟨tiOf_eq Try.underlying113 Try.type113 (by kernel_rfl),
 ⟨tiOf_eq Try.underlying114 Try.type114 (by kernel_rfl),
 ⟨tiOf_eq Try.underlying115 Try.type115 (by kernel_rfl),
 ⟨tiOf_eq Try.underlying116 Try.type116 (by kernel_rfl),
 ⟨tiOf_eq Try.underlying117 Try.type117 (by kernel_rfl),
 ⟨tiOf_eq Try.underlying118 Try.type118 (by kernel_rfl),
 ⟨tiOf_eq Try.underlying119 Try.type119 (by kernel_rfl),
 ⟨tiOf_eq Try.underlying120 Try.type120 (by kernel_rfl),
 ⟨tiOf_eq Try.underlying121 Try.type121 (by kernel_rfl),
 ⟨tiOf_eq Try.underlying122 Try.type122 (by kernel_rfl),
 ⟨tiOf_eq Try.underlying123 Try.type123 (by kernel_rfl),
 ⟨tiOf_eq Try.underlying124 Try.type124 (by kernel_rfl),
 ⟨tiOf_eq Try.underlying126 Try.type126 (by kernel_rfl),
 ⟨tiOf_eq Try.underlying127 Try.type127 (by kernel_rfl),
 ⟨tiOf_eq Try.underlying128 Try.type128 (by kernel_rfl),
 ⟨tiOf_eq Try.underlying129 Try.type129 (by kernel_rfl),
 ⟨tiOf_eq Try.underlying130 Try.type130 (by kernel_rfl),
 ⟨tiOf_eq Try.underlying131 Try.type131 (by kernel_rfl),
 ⟨tiOf_eq Try.underlying132 Try.type132 (by kernel_rfl),
 ⟨tiOf_eq Try.underlying133 Try.type133 (by kernel_rfl),
 ⟨tiOf_eq Try.underlying134 Try.type134 (by kernel_rfl),
 ⟨tiOf_eq Try.underlying135 Try.type135 (by kernel_rfl),
 ⟨tiOf_eq Try.underlying136 Try.type136 (by kernel_rfl),
 ⟨tiOf_eq Try.underlying137 Try.type137 (by kernel_rfl),
 ⟨tiOf_eq Try.underlying138 Try.type138 (by kernel_rfl),
 ⟨tiOf_eq Try.underlying139 Try.type139 (by kernel_rfl),
 ⟨tiOf_eq Try.underlying140 Try.type140 (by kernel_rfl),
 ⟨tiOf_eq Try.underlying141 Try.type141 (by kernel_rfl),
 ⟨tiOf_eq Try.underlying142 Try.type142 (by kernel_rfl),
 ⟨tiOf_eq Try.underlying143 Try.type143 (by kernel_rfl),
 ⟨tiOf_eq Try.underlying144 Try.type144 (by kernel_rfl),
 ⟨tiOf_eq Try.underlying145 Try.type145 (by kernel_rfl),
 ⟨tiOf_eq Try.underlying146 Try.type146 (by kernel_rfl),
 ⟨tiOf_eq Try.underlying147 Try.type147 (by kernel_rfl),
 ⟨tiOf_eq Try.underlying148 Try.type148 (by kernel_rfl),
 ⟨tiOf_eq Try.underlying149 Try.type149 (by kernel_rfl),
 ⟨tiOf_eq Try.underlying150 Try.type150 (by kernel_rfl),
 ⟨tiOf_eq Try.underlying151 Try.type151 (by kernel_rfl),
 ⟨tiOf_eq Try.underlying152 Try.type152 (by kernel_rfl),
 ⟨tiOf_eq Try.underlying153 Try.type153 (by kernel_rfl),
 ⟨tiOf_eq Try.underlying154 Try.type154 (by kernel_rfl),
 ⟨tiOf_eq Try.underlying155 Try.type155 (by kernel_rfl),
 ⟨tiOf_eq Try.underlying156 Try.type156 (by kernel_rfl),
 ⟨tiOf_eq Try.underlying157 Try.type157 (by kernel_rfl),
 ⟨tiOf_eq Try.underlying158 Try.type158 (by kernel_rfl),
 ⟨tiOf_eq Try.underlying159 Try.type159 (by kernel_rfl),
 ⟨tiOf_eq Try.underlying160 Try.type160 (by kernel_rfl),
 ⟨tiOf_eq Try.underlying161 Try.type161 (by kernel_rfl),
 ⟨tiOf_eq Try.underlying162 Try.type162 (by kernel_rfl),
 ⟨tiOf_eq Try.underlying163 Try.type163 (by kernel_rfl),
 ⟨tiOf_eq Try.underlying164 Try.type164 (by kernel_rfl),
 ⟨tiOf_eq Try.underlying165 Try.type165 (by kernel_rfl),
 ⟨tiOf_eq Try.underlying166 Try.type166 (by kernel_rfl),
 ⟨tiOf_eq Try.underlying167 Try.type167 (by kernel_rfl),
 ⟨tiOf_eq Try.underlying169 Try.type169 (by kernel_rfl),
 ⟨tiOf_eq Try.underlying170 Try.type170 (by kernel_rfl),
 ⟨tiOf_eq Try.underlying171 Try.type171 (by kernel_rfl),
 ⟨tiOf_eq Try.underlying172 Try.type172 (by kernel_rfl),
 ⟨tiOf_eq Try.underlying174 Try.type174 (by kernel_rfl),
 ⟨tiOf_eq Try.underlying175 Try.type175 (by kernel_rfl),
 ⟨tiOf_eq Try.underlying176 Try.type176 (by kernel_rfl),
 ⟨tiOf_eq Try.underlying177 Try.type177 (by kernel_rfl),
 ⟨tiOf_eq Try.underlying178 Try.type178 (by kernel_rfl),
 ⟨tiOf_eq Try.underlying179 Try.type179 (by kernel_rfl),
 ⟨tiOf_eq Try.underlying180 Try.type180 (by kernel_rfl),
 ⟨tiOf_eq Try.underlying181 Try.type181 (by kernel_rfl),
 ⟨tiOf_eq Try.underlying182 Try.type182 (by kernel_rfl),
 ⟨tiOf_eq Try.underlying183 Try.type183 (by kernel_rfl),
 ⟨tiOf_eq Try.underlying184 Try.type184 (by kernel_rfl),
 ⟨tiOf_eq Try.underlying185 Try.type185 (by kernel_rfl),
 ⟨tiOf_eq Try.underlying186 Try.type186 (by kernel_rfl),
 ⟨tiOf_eq Try.underlying187 Try.type187 (by kernel_rfl),
 ⟨tiOf_eq Try.underlying188 Try.type188 (by kernel_rfl),
 ⟨tiOf_eq Try.underlying190 Try.type190 (by kernel_rfl),
 ⟨tiOf_eq Try.underlying191 Try.type191 (by kernel_rfl),
 ⟨tiOf_eq Try.underlying193 Try.type193 (by kernel_rfl),
 ⟨tiOf_eq Try.underlying196 Try.type196 (by kernel_rfl),
 ⟨tiOf_eq Try.underlying197 Try.type197 (by kernel_rfl),
 ⟨tiOf_eq Try.underlying200 Try.type200 (by kernel_rfl),
 trivial⟩⟩⟩⟩⟩⟩⟩⟩⟩⟩⟩⟩⟩⟩⟩⟩⟩⟩⟩⟩⟩⟩⟩⟩⟩⟩⟩⟩⟩⟩⟩⟩⟩⟩⟩⟩⟩⟩⟩⟩⟩⟩⟩⟩⟩⟩⟩⟩⟩⟩⟩⟩⟩⟩⟩⟩⟩⟩⟩⟩⟩⟩⟩⟩⟩⟩⟩⟩⟩⟩⟩⟩⟩⟩⟩⟩⟩⟩⟩⟩⟩⟩⟩⟩⟩⟩⟩⟩⟩⟩⟩⟩⟩⟩⟩⟩⟩⟩⟩⟩⟩⟩⟩⟩⟩⟩⟩⟩⟩⟩⟩⟩⟩⟩⟩⟩⟩⟩⟩⟩⟩⟩⟩⟩⟩⟩⟩⟩⟩⟩⟩⟩⟩⟩⟩⟩⟩⟩⟩⟩⟩⟩⟩⟩⟩⟩⟩⟩⟩⟩⟩⟩⟩⟩⟩⟩⟩⟩⟩⟩⟩⟩⟩⟩⟩⟩⟩⟩⟩⟩⟩⟩⟩⟩⟩⟩
abbrev bT:Ora:=.b true
abbrev bF:Ora:=.b false
theorem oT {l:List Prop} (h:AllP l):AllP ((true=true) :: l):=⟨rfl,h⟩
theorem oF {l:List Prop} (h:AllP l):AllP ((false=false) :: l):=⟨rfl,h⟩
section
variable {P : Program} {c : Cfg} {G G' : Sta} {K : Ex → Sta → Prop} {x : Code}
theorem sDE (hc:COk P c) (q:List Ora) (dr:List Nat) (ch ch':Sta) {obs:List Prop} (ho:AllP obs) (hk:Sem P c (sq2 x) (edt dr ch' G) K) (e':ch=ch':=by first | rfl | (simp only [nm,enq];done) | (simp only [n0];first | done | simp only [nm,enq])) (e:x=.seq (sq1 x) (sq2 x):=by kernel_rfl)
 (h:evReg P c (sq1 x) q [] (keysOf (edt dr ch G)) G=some (obs,edt dr ch G):=by kernel_rfl):Sem P c x G K:=by subst e';exact Sem.seqR hc e h ho hk
theorem rDE (hc:COk P c) (q:List Ora) (dr:List Nat) (ch ch':Sta) {obs:List Prop} (ho:AllP obs) (hk:K .normal (edt dr ch' G)) (e':ch=ch':=by first | rfl | (simp only [nm,enq];done) | (simp only [n0];first | done | simp only [nm,enq]))
 (h:evReg P c x q [] (keysOf (edt dr ch G)) G=some (obs,edt dr ch G):=by kernel_rfl):Sem P c x G K:=by subst e';exact Sem.region hc h ho hk
theorem endD {nt:Nat} {rs:List ResultVar} {n:Nat} (fz:List (Nat×Nat)) (r:AV) (l:List AV) {R:AV→List AV→Prop} (hR:R r l:=by first | exact ⟨rfl,rfl⟩ | (refine ⟨?_,?_⟩<;>(try simp only [nm,enq])<;>rfl) | (refine ⟨?_,?_⟩<;>simp only [nm,enq])) (h:evEnd P c rs n (Ev.frzs fz G)=some (r,l):=by kernel_rfl) :
 (∃ G',Wk P nt G G'∧endK (CallE P) c rs n R .ret G')∧(∃ G',Wk P nt G G'∧endK (CallE P) c rs n R .normal G'):=
 ⟨⟨_,Wk.frzs,(evEnd_endK h hR).1⟩,⟨_,Wk.frzs,(evEnd_endK h hR).2⟩⟩
end
end Go.Ev
namespace Go.Proofs
open Go.Shelf
def Try.lays189_ren:Go.Shelf.Ren:=⟨fun | 189=>93 | 125=>116 | 257=>115 | 128=>132 | 129=>133 | 294=>123 | 295=>124 | 296=>125 | 297=>126 | 298=>127 | 299=>128 | 216=>129 | 300=>130 | 301=>131 | 328=>135 | 329=>136 | 330=>137 | 331=>138 | 332=>139 | 215=>140 | 343=>141 | n=>n,fun | 28=>30 | 3=>3 | 46=>156 | 0=>0 | 51=>176 | 53=>31 | 4=>4 | 183=>168 | 182=>167 | 131=>173 | 5=>5 | 9=>9 | 218=>179 | 222=>183 | 228=>185 | 229=>57 | n=>n,fun | n=>n⟩
theorem Try.lays189:Go.Proofs.Lays.n189 Try.prog Try.lays189_ren:={
 mixed:=by kernel_rfl
 f125:=Try.func116.trans (congrArg some (by kernel_rfl))
 f128:=Try.func132.trans (congrArg some (by kernel_rfl))
 f129:=Try.func133.trans (congrArg some (by kernel_rfl))
 f189:=Try.func93.trans (congrArg some (by kernel_rfl))
 f215:=Try.func140.trans (congrArg some (by kernel_rfl))
 f216:=Try.func129.trans (congrArg some (by kernel_rfl))
 f257:=Try.func115.trans (congrArg some (by kernel_rfl))
 f294:=Try.func123.trans (congrArg some (by kernel_rfl))
 f295:=Try.func124.trans (congrArg some (by kernel_rfl))
 f296:=Try.func125.trans (congrArg some (by kernel_rfl))
 f297:=Try.func126.trans (congrArg some (by kernel_rfl))
 f298:=Try.func127.trans (congrArg some (by kernel_rfl))
 f299:=Try.func128.trans (congrArg some (by kernel_rfl))
 f300:=Try.func130.trans (congrArg some (by kernel_rfl))
 f301:=Try.func131.trans (congrArg some (by kernel_rfl))
 f328:=Try.func135.trans (congrArg some (by kernel_rfl))
 f329:=Try.func136.trans (congrArg some (by kernel_rfl))
 f330:=Try.func137.trans (congrArg some (by kernel_rfl))
 f331:=Try.func138.trans (congrArg some (by kernel_rfl))
 f332:=Try.func139.trans (congrArg some (by kernel_rfl))
 f343:=Try.func141.trans (congrArg some (by kernel_rfl))
 t0:=Try.underlying0
 a0:=Try.isAgg0
 z0:=Try.sizeOf0
 v0:=Try.zeroValue0
 t3:=Try.underlying3
 a3:=Try.isAgg3
 z3:=Try.sizeOf3
 v3:=Try.zeroValue3
 t4:=Try.underlying4
 a4:=Try.isAgg4
 z4:=Try.sizeOf4
 v4:=Try.zeroValue4
 t5:=Try.underlying5
 a5:=Try.isAgg5
 z5:=Try.sizeOf5
 v5:=Try.zeroValue5
 t9:=Try.underlying9
 a9:=Try.isAgg9
 z9:=Try.sizeOf9
 v9:=Try.zeroValue9
 t28:=Try.underlying30
 a28:=Try.isAgg30
 z28:=Try.sizeOf30
 v28:=Try.zeroValue30
 t46:=Try.underlying156
 a46:=Try.isAgg156
 z46:=Try.sizeOf156
 v46:=Try.zeroValue156
 t51:=Try.underlying176
 a51:=Try.isAgg176
 z51:=Try.sizeOf176
 v51:=Try.zeroValue176
 t53:=Try.underlying31
 a53:=Try.isAgg31
 z53:=Try.sizeOf31
 v53:=Try.zeroValue31
 t131:=Try.underlying173
 a131:=Try.isAgg173
 z131:=Try.sizeOf173
 v131:=Try.zeroValue173
 t182:=Try.underlying167
 a182:=Try.isAgg167
 z182:=Try.sizeOf167
 v182:=Try.zeroValue167
 t183:=Try.underlying168
 a183:=Try.isAgg168
 z183:=Try.sizeOf168
 v183:=Try.zeroValue168
 t218:=Try.underlying179
 a218:=Try.isAgg179
 z218:=Try.sizeOf179
 v218:=Try.zeroValue179
 t222:=Try.underlying183
 a222:=Try.isAgg183
 z222:=Try.sizeOf183
 v222:=Try.zeroValue183
 t228:=Try.underlying185
 a228:=Try.isAgg185
 z228:=Try.sizeOf185
 v228:=Try.zeroValue185
 t229:=Try.underlying57
 a229:=Try.isAgg57
 z229:=Try.sizeOf57
 v229:=Try.zeroValue57 }
open Go.Sort Go.RowKit in
theorem Try.slices_Sort_int (blk off cap:Nat) (zs:List Int) (w:World) (hH:Holds (Value.int .i64) w blk off zs.toArray) (hblk:blk < w.heap.size) (hsz:zs.length < 4611686018427387904) :
 Calls Try.prog 93 #[.slice (some ⟨blk,off,none⟩) zs.length cap] w fun e w'=>
  e=.returned (.tuple #[])∧∃ n os,w'=grow (putRow (Value.int .i64) (Sort.ahead w n) blk off (zs.mergeSort fun x y=>decide (x≤y)).toArray) os:=Any.slices_Sort_int Try.lays189 blk off cap zs w hH hblk hsz
def Try.laysNm220_ren:Go.Shelf.Ren:=⟨fun | 20=>94 | n=>n,fun | 22=>30 | 3=>3 | 4=>4 | 0=>0 | n=>n,fun | n=>n⟩
theorem Try.laysNm220:Go.Proofs.Lays2.n20 Try.prog Try.laysNm220_ren:={
 mixed:=by kernel_rfl
 f20:=Try.func94.trans (congrArg some (by kernel_rfl))
 t0:=Try.underlying0
 a0:=Try.isAgg0
 z0:=Try.sizeOf0
 v0:=Try.zeroValue0
 t3:=Try.underlying3
 a3:=Try.isAgg3
 z3:=Try.sizeOf3
 v3:=Try.zeroValue3
 t4:=Try.underlying4
 a4:=Try.isAgg4
 z4:=Try.sizeOf4
 v4:=Try.zeroValue4
 t22:=Try.underlying30
 a22:=Try.isAgg30
 z22:=Try.sizeOf30
 v22:=Try.zeroValue30
 i3:=by kernel_rfl }
open Go.RowKit Go.Lib Go.Sort in
theorem Try.slices_Compact_int (blk off cap:Nat) (zs:List Int) (w:World) (hH:Holds (Value.int .i64) w blk off zs.toArray) (hsz:zs.length≤9223372036854775807) (hcap:zs.length≤cap) :
 Calls Try.prog 94 #[.slice (some ⟨blk,off,none⟩) zs.length cap] w fun e w'=>e=.returned (.slice (some ⟨blk,off,none⟩) (Lib.compact zs).length cap)∧∃ q,w'=putRow (Value.int .i64) (Sort.ahead w q) blk off (Lib.compact zs++List.replicate (zs.length - (Lib.compact zs).length) 0).toArray:=Any.slices_Compact_int Try.laysNm220 blk off cap zs w hH hsz hcap
open Go.RowKit Go.Lib Go.Sort in
theorem Try.slices_Compact_int_empty (a:Option Addr) (cap:Nat) (w:World) :
 Calls Try.prog 94 #[.slice a 0 cap] w fun e w'=>e=.returned (.slice a 0 cap)∧w'=w:=Any.slices_Compact_int_empty Try.laysNm220 a cap w
open Go.RowKit Go.Sort in
theorem Try.slices_Sort_int_none (p:Option Addr) (cap:Nat) (w:World) :
 Calls Try.prog 93 #[.slice p 0 cap] w fun e w'=>e=.returned (.tuple #[])∧w'=w:=Any.slices_Sort_int_none Try.lays189 p cap w
end Go.Proofs
set_option linter.unusedVariables false
set_option linter.unusedSimpArgs false
namespace Go.Ev
open Go Go.RowKit Go.Sort
variable {P : Program}
def fvInts:List FV→Option (List Int)
 | []=>some []
 | .pv (.int .i64 n) :: r=>match fvInts r with
   | some l=>some (n :: l)
   | none=>none
 | _=>none
theorem fvInts_spec:∀ {l:List FV} {zs:List Int},fvInts l=some zs→l=zs.map fun n=>.pv (.int .i64 n)
 | [],zs,h=>by simp only [fvInts,Option.some.injEq] at h;subst h;rfl
 | .pv (.int k n) :: r,zs,h=>by
   unfold fvInts at h
   split at h
   ·rename_i heq;cases heq
   ·rename_i heq
    cases heq
    split at h
    ·rename_i l hl
     simp only [Option.some.injEq] at h;subst h
     rw [fvInts_spec hl];rfl
    ·cases h
   ·cases h
 | .pv (.bool _) :: r,zs,h | .pv (.float _ _) :: r,zs,h | .pv (.complex _ _ _) :: r,zs,h | .pv (.string _) :: r,zs,h | .pv (.pointer _) :: r,zs,h | .pv (.slice _ _ _) :: r,zs,h
 | .pv (.map _) :: r,zs,h | .pv (.chan _) :: r,zs,h | .pv (.func _ _ _) :: r,zs,h | .pv .nilFunc :: r,zs,h | .pv (.iface _ _) :: r,zs,h | .pv .nilIface :: r,zs,h
 | .pv (.agg _) :: r,zs,h | .pv (.tuple _) :: r,zs,h | .agg _ :: r,zs,h | .sl _ :: r,zs,h=>by simp [fvInts] at h
theorem fvInts_map (enc:Int→FV) (h:∀ n,enc n=.pv (.int .i64 n)):∀ zs:List Int,fvInts (zs.map enc)=some zs
 | []=>rfl
 | n :: r=>by simp only [List.map_cons,h n,fvInts,fvInts_map enc h r]
def sortInts (zs:List Int):List Int:=zs.mergeSort fun x y=>decide (x≤y)
def compactInts (zs:List Int):List Int:=Lib.compact zs
def sortF (l:List FV):Option (List FV):=match fvInts l with
 | some zs=>if zs.length < 2 ^ 40 then some ((sortInts zs).map fun n=>.pv (.int .i64 n)) else none
 | none=>none
def compactF (l:List FV):Option (List FV):=match fvInts l with
 | some zs=>if zs.length < 2 ^ 40 then some ((compactInts zs).map fun n=>.pv (.int .i64 n)) else none
 | none=>none
theorem sortF_map (enc:Int→FV) (h:∀ n,enc n=.pv (.int .i64 n)) (zs:List Int) (hl:zs.length < 2 ^ 40):sortF (zs.map enc)=some ((sortInts zs).map enc):=by
 have:enc=fun n=>.pv (.int .i64 n):=funext h
 unfold sortF
 rw [fvInts_map enc h]
 dsimp only
 rw [if_pos hl,this]
theorem compactF_map (enc:Int→FV) (h:∀ n,enc n=.pv (.int .i64 n)) (zs:List Int) (hl:zs.length < 2 ^ 40):compactF (zs.map enc)=some ((compactInts zs).map enc):=by
 have:enc=fun n=>.pv (.int .i64 n):=funext h
 unfold compactF
 rw [fvInts_map enc h]
 dsimp only
 rw [if_pos hl,this]
abbrev HasF (P:Program) (g:FuncId):Prop:=∃ fn,P.funcs[g]?=some fn∧(fn.name == "runtime.NumGoroutine")=false∧fn.body.isNone=false
theorem ownB_ints {own:Own} {w:World} {b o:Nat} {E:TypeId} {k n:Nat} {zs:List Int} (h:OwnB P own w b o E k (zs.map fun n=>.pv (.int .i64 n)) n) (hE:esz P E=1) :
 ∃ arr,w.heap[k]?=some (.cells arr E (0,0))∧n≤arr.size∧Holds (Value.int .i64) w k 0 zs.toArray∧k < w.heap.size:=by
 obtain ⟨_,arr,h2,h3,h4,h5⟩:=h
 rw [hE] at h3 h5
 have hk:k < w.heap.size:=(Array.getElem?_eq_some_iff.1 h2).1
 refine ⟨arr,h2,by omega,fun j hj=>?_,hk⟩
 have hj':j < zs.length:=by simpa using hj
 obtain ⟨v,e1,e2⟩:=h5 j (.pv (.int .i64 zs[j])) 0 (.pv (.int .i64 zs[j])) (by simp [hj']) rfl
 cases e2
 have he:zs.toArray[j]! = zs[j]:=by simp [hj']
 constructor
 ·simp only [World.cell?,h2,Nat.zero_add]
  rw [he];simpa using e1
 ·simp [World.frozen?,h2]
theorem heap_putRow_ne {enc:Int→Value} {w:World} {k off j:Nat} {d:Array Int} (h:j≠k):(putRow enc w k off d).heap[j]?=w.heap[j]?:=by
 simp only [putRow,mapBlock,Array.getElem?_modify]
 rw [if_neg (Ne.symm h)]
theorem heap_putRow_eq {enc:Int→Value} {w:World} {k off:Nat} {d:Array Int} {arr:Array Value} {E:TypeId} {f:Nat×Nat} (h:w.heap[k]?=some (.cells arr E f)):(putRow enc w k off d).heap[k]?=some (.cells (putCells enc off d arr) E f):=by
 simp only [putRow,mapBlock,Array.getElem?_modify,if_true,h,Option.map_some]
 rfl
theorem ownB_put' {own:Own} {w w':World} {b o:Nat} {E:TypeId} {k n:Nat} {zs ys:List Int} (h:OwnB P own w b o E k (zs.map fun n=>.pv (.int .i64 n)) n) (hE:esz P E=1) {d:Array Int}
 (hw:w'.heap[k]?=(putRow (Value.int .i64) w k 0 d).heap[k]?) (hlen:ys.length≤d.size) (hd:∀ j,j < ys.length→d[j]! = ys[j]!) (hsz:d.size≤zs.length):OwnB P own w' b o E k (ys.map fun n=>.pv (.int .i64 n)) n:=by
 obtain ⟨h1,arr,h2,h3,h4,h5⟩:=h
 refine ⟨h1,putCells (Value.int .i64) 0 d arr,by rw [hw,heap_putRow_eq h2],by simpa [putCells] using h3,?_,?_⟩
 ·intro x hx
  simp only [List.mem_map] at hx
  obtain ⟨y,_,rfl⟩:=hx
  rw [hE];rfl
 ·intro i x j y e1 e2
  simp only [List.getElem?_map,Option.map_eq_some_iff] at e1
  obtain ⟨z,e1,rfl⟩:=e1
  have hj:j=0:=by
   cases j with
   | zero=>rfl
   | succ j=>simp [FV.cells] at e2
  subst hj
  have hi:i < ys.length:=(List.getElem?_eq_some_iff.1 e1).1
  simp [FV.cells] at e2;subst e2
  have hE':=hE
  rw [hE]
  refine ⟨.int .i64 z,?_,RF.pv _ rfl⟩
  have hia:i < arr.size:=by
   have hiz:i < zs.length:=by omega
   obtain ⟨v,e3,_⟩:=h5 i (.pv (.int .i64 zs[i])) 0 (.pv (.int .i64 zs[i])) (by simp [hiz]) rfl
   rw [hE] at e3
   have:=(Array.getElem?_eq_some_iff.1 e3).1
   omega
  simp only [putCells,Array.getElem?_mapIdx,Nat.mul_one,Nat.add_zero,Array.getElem?_eq_getElem hia,Option.map_some,Nat.zero_le,true_and,Nat.zero_add,Nat.sub_zero]
  rw [if_pos (by omega),hd i hi]
  have:=(List.getElem?_eq_some_iff.1 e1).2
  simp [hi,this]
theorem ip_sort {g:FuncId} (hf:HasF P g) (hE:∀ own w b o E l u k n,OwnL P own w b o E l u→OwnB P own w b o E k l n→l≠[]→(∀ x∈l,x.size=1)→esz P E=1)
 (hs:∀ (blk off cap:Nat) (zs:List Int) (w:World),Holds (Value.int .i64) w blk off zs.toArray→blk < w.heap.size→zs.length < 4611686018427387904→
   Calls P g #[.slice (some ⟨blk,off,none⟩) zs.length cap] w fun e w'=>e=.returned (.tuple #[])∧∃ n os,w'=grow (putRow (Value.int .i64) (Sort.ahead w n) blk off (zs.mergeSort fun x y=>decide (x≤y)).toArray) os)
 (hn:∀ (p:Option Addr) (cap:Nat) (w:World),Calls P g #[.slice p 0 cap] w fun e w'=>e=.returned (.tuple #[])∧w'=w):IpOk P g sortF false:=by
 refine ⟨hf,fun own w b o E l l' u hl hlt hone hu=>?_⟩
 unfold sortF at hl
 split at hl
 ·rename_i zs hz
  split at hl
  ·rename_i hlen
   simp only [Option.some.injEq] at hl;subst hl
   have hlz:=fvInts_spec hz
   subst hlz
   have hu0:=hu
   obtain ⟨a,c,rfl,hc,h3⟩:=hu
   by_cases hnil:zs=[]
   ·subst hnil
    refine (hn a c w).mono ?_
    rintro e w' ⟨rfl,rfl⟩
    refine ⟨_,rfl,Nat.le_refl _,fun _ _ _=>rfl,rfl,rfl,rfl,?_⟩
    rw [if_neg (by simp)]
    exact ⟨rfl,fun k n h=>by simpa [sortInts] using h⟩
   ·rcases h3 with ⟨_,h,_⟩ | ⟨k,rfl,hB⟩
    ·simp at h;exact absurd h hnil
    ·have hE1:esz P E=1:=hE _ _ _ _ _ _ _ _ _ hu0 hB (by simpa using hnil) (fun x hx=>by simp only [List.mem_map] at hx;obtain ⟨y,_,rfl⟩:=hx;rfl)
     obtain ⟨arr,q1,q2,q3,q4⟩:=ownB_ints hB hE1
     have hll:(zs.map fun n=>FV.pv (.int .i64 n)).length=zs.length:=by simp
     rw [hll] at hc ⊢
     refine (hs k 0 c zs w q3 q4 (by omega)).mono ?_
     rintro e w' ⟨rfl,m,os,rfl⟩
     have hheap:∀ j,j < w.heap.size→(grow (putRow (Value.int .i64) (Sort.ahead w m) k 0 (zs.mergeSort fun x y=>decide (x≤y)).toArray) os).heap[j]?=(putRow (Value.int .i64) w k 0 (zs.mergeSort fun x y=>decide (x≤y)).toArray).heap[j]?:=fun j hj=>by
      simp only [grow]
      rw [Array.getElem?_append_left (by simpa using hj)]
      rfl
     refine ⟨_,rfl,by simp [grow],fun j hj hne=>?_,rfl,rfl,rfl,?_⟩
     ·rw [hheap j hj,heap_putRow_ne]
      intro e;subst e;exact hne hB.1
     ·rw [if_neg (by simp)]
      refine ⟨rfl,fun k' n' hB'=>?_⟩
      have:k'=k:=hone _ _ _ hB'.1 hB.1
      subst this
      refine ownB_put' hB' hE1 (hheap k' q4) (by simp [sortInts]) (fun j hj=>by simp [sortInts]) (by simp)
  ·cases hl
 ·cases hl
theorem ip_compact {g:FuncId} (hf:HasF P g) (hE:∀ own w b o E l u k n,OwnL P own w b o E l u→OwnB P own w b o E k l n→l≠[]→(∀ x∈l,x.size=1)→esz P E=1)
 (hs:∀ (blk off cap:Nat) (zs:List Int) (w:World),Holds (Value.int .i64) w blk off zs.toArray→zs.length≤9223372036854775807→zs.length≤cap→
   Calls P g #[.slice (some ⟨blk,off,none⟩) zs.length cap] w fun e w'=>e=.returned (.slice (some ⟨blk,off,none⟩) (Lib.compact zs).length cap)∧∃ q,w'=putRow (Value.int .i64) (Sort.ahead w q) blk off (Lib.compact zs++List.replicate (zs.length - (Lib.compact zs).length) 0).toArray)
 (hn:∀ (a:Option Addr) (cap:Nat) (w:World),Calls P g #[.slice a 0 cap] w fun e w'=>e=.returned (.slice a 0 cap)∧w'=w)
 (hle:∀ zs,(Lib.compact zs:List Int).length≤zs.length):IpOk P g compactF true:=by
 refine ⟨hf,fun own w b o E l l' u hl hlt hone hu=>?_⟩
 unfold compactF at hl
 split at hl
 ·rename_i zs hz
  split at hl
  ·rename_i hlen
   simp only [Option.some.injEq] at hl;subst hl
   have hlz:=fvInts_spec hz
   subst hlz
   have hu0:=hu
   obtain ⟨a,c,rfl,hc,h3⟩:=hu
   have hcl:=hle zs
   by_cases hnil:zs=[]
   ·subst hnil
    have hc0:Lib.compact ([]:List Int)=[]:=List.length_eq_zero_iff.1 (by simpa using hcl)
    refine (hn a c w).mono ?_
    rintro e w' ⟨rfl,rfl⟩
    refine ⟨_,rfl,Nat.le_refl _,fun _ _ _=>rfl,rfl,rfl,rfl,?_⟩
    rw [if_pos rfl]
    simp only [compactInts,hc0,List.map_nil]
    exact hu0
   ·rcases h3 with ⟨_,h,_⟩ | ⟨k,rfl,hB⟩
    ·simp at h;exact absurd h hnil
    ·have hE1:esz P E=1:=hE _ _ _ _ _ _ _ _ _ hu0 hB (by simpa using hnil) (fun x hx=>by simp only [List.mem_map] at hx;obtain ⟨y,_,rfl⟩:=hx;rfl)
     obtain ⟨arr,q1,q2,q3,q4⟩:=ownB_ints hB hE1
     have hll:(zs.map fun n=>FV.pv (.int .i64 n)).length=zs.length:=by simp
     rw [hll] at hc ⊢
     refine (hs k 0 c zs w q3 (by omega) hc).mono ?_
     rintro e w' ⟨rfl,m,rfl⟩
     refine ⟨_,rfl,by simp,fun j hj hne=>?_,rfl,rfl,rfl,?_⟩
     ·rw [heap_putRow_ne]
      ·rfl
      ·intro e;subst e;exact hne hB.1
     ·rw [if_pos rfl]
      refine ⟨_,c,by simp [compactInts],by simp [compactInts];omega,.inr ⟨k,rfl,?_⟩⟩
      refine ownB_put' hB hE1 rfl (by simp [compactInts]) (fun j hj=>?_) (by simp;omega)
      simp only [compactInts] at hj ⊢
      have hj2:j < (Lib.compact zs++List.replicate (zs.length - (Lib.compact zs).length) 0).length:=by simp;omega
      simp [hj,List.getElem?_append_left hj]
  ·cases hl
 ·cases hl
theorem gr_grow {g:FuncId} {E:TypeId} (hf:HasF P g) (hsz:esz P E=1) (hE0:∀ w n,0 < n→n≤2 ^ 40→Calls P g #[.slice none 0 0,.int .i64 (n:Nat)] w fun e w'=>∃ cap arr m,e=.returned (.slice (some ⟨w.heap.size,0,none⟩) 0 cap)∧w'=({ w with drawn:=m }:World).alloc (.cells arr E)∧cap≤arr.size)
 (h0:∀ w,Calls P g #[.slice none 0 0,.int .i64 0] w fun e w'=>e=.returned (.slice none 0 0)∧w'=w):GrOk P g E:=by
 refine ⟨hf,fun w n hn hn2=>?_⟩
 by_cases hz:n=0
 ·subst hz
  exact (h0 w).mono fun e w' h=>.inl h
 ·obtain ⟨m,rfl⟩:∃ m:Nat,n=m:=⟨n.toNat,by omega⟩
  refine (hE0 w m (by omega) (by omega)).mono ?_
  rintro e w' ⟨cap,arr,q,rfl,rfl,hc⟩
  exact .inr ⟨cap,arr,q,rfl,rfl,by rw [hsz];omega⟩
end Go.Ev
set_option linter.unusedSimpArgs false
set_option linter.unusedVariables false
namespace Go.Ev
open Go Go.Proofs
set_option maxRecDepth 8000
def growRen:Go.Shelf.Ren:=⟨fun | 4=>104 | n=>n,fun | 22=>30 | 25=>3 | n=>n,fun n=>n⟩
theorem growLays:Lays8.n4 Try.prog growRen:={
 mixed:=by kernel_rfl
 f4:=⟨Try.f104.name,by rfl,Try.func104.trans (congrArg some (by kernel_rfl))⟩
 t0:=Try.underlying0
 a0:=Try.isAgg0
 z0:=Try.sizeOf0
 v0:=Try.zeroValue0
 t3:=Try.underlying3
 a3:=Try.isAgg3
 z3:=Try.sizeOf3
 v3:=Try.zeroValue3
 t4:=Try.underlying4
 a4:=Try.isAgg4
 z4:=Try.sizeOf4
 v4:=Try.zeroValue4
 t9:=Try.underlying9
 a9:=Try.isAgg9
 z9:=Try.sizeOf9
 v9:=Try.zeroValue9
 t20:=Try.underlying20
 a20:=Try.isAgg20
 z20:=Try.sizeOf20
 v20:=Try.zeroValue20
 t22:=Try.underlying30
 a22:=Try.isAgg30
 z22:=Try.sizeOf30
 v22:=Try.zeroValue30 }
def ipTab (g:FuncId):Option ((List FV→Option (List FV))×Bool):=
 match Nat.beq g 93 with
 | true=>some (sortF,false)
 | false=>match Nat.beq g 94 with
   | true=>some (compactF,true)
   | false=>none
def grTab (g:FuncId):Option TypeId:=
 match Nat.beq g 104 with
 | true=>some 3
 | false=>none
theorem esz_one {own:Own} {w:World} {b o:Nat} {E:TypeId} {l:List FV} {u:Value} {k n:Nat} (h:OwnL Try.prog own w b o E l u) (h2:OwnB Try.prog own w b o E k l n) (hne:l≠[]) (hs:∀ x∈l,x.size=1):esz Try.prog E=1:=by
 obtain ⟨_,arr,_,_,h4,_⟩:=h2
 cases l with
 | nil=>exact absurd rfl hne
 | cons x r=>rw [← h4 x (List.mem_cons_self ..)];exact hs x (List.mem_cons_self ..)
theorem sort_ok:IpOk Try.prog 93 sortF false:=
 ip_sort ⟨_,Try.func93,by rfl,by rfl⟩ (fun _ _ _ _ _ _ _ _ _ h h2 h3 h4=>esz_one h h2 h3 h4) Try.slices_Sort_int Try.slices_Sort_int_none
theorem compact_ok:IpOk Try.prog 94 compactF true:=
 ip_compact ⟨_,Try.func94,by rfl,by rfl⟩ (fun _ _ _ _ _ _ _ _ _ h h2 h3 h4=>esz_one h h2 h3 h4) Try.slices_Compact_int Try.slices_Compact_int_empty Lib.compact_length_le
theorem grow_ok:GrOk Try.prog 104 3:=by
 refine gr_grow ⟨_,Try.func104,by rfl,by rfl⟩ (by kernel_rfl) (fun w n h0 h1=>?_) (fun w=>?_)
 ·refine (Any8.slices_Grow_grow growLays Try.t3 (.int .i64 0) Try.type3 (by kernel_rfl) (Nat.le_of_ble_eq_true rfl) none 0 0 n [] w (Nat.le_refl _) (by omega) ?_ (by omega) rfl (fun _=>rfl) (fun a h=>by cases h)).mono ?_
  ·have:Try.t3.bytes=8:=rfl
   rw [this];omega
  ·rintro e w' ⟨rfl,rfl⟩
   refine ⟨_,_,w.drawn+1,rfl,rfl,?_⟩
   have h1:(Value.int IntKind.i64 0).cells.size=1:=rfl
   simp [Builtin.zeroCells,h1]
   omega
 ·exact (Any8.slices_Grow_room growLays none 0 0 0 w (Nat.le_refl _) (by omega) (by omega) (by omega)).mono fun e w' h=>h
def eqTab (t:TypeId):Bool:=Nat.beq t 69
noncomputable def cf (mv:List Nat) (nt:Nat):Cfg:=mkCfgV tyTab ipTab grTab eqTab mv nt
theorem cfOk (mv:List Nat) (nt:Nat):COk Try.prog (cf mv nt):=by
 refine mkCfgV_ok tyTab_ok (by rfl) ⟨fun g f back h=>?_,fun g E h=>?_,fun t h=>?_⟩
 ·change ipTab g=some (f,back) at h
  unfold ipTab at h
  split at h
  ·rename_i e
   simp only [Option.some.injEq,Prod.mk.injEq] at h
   obtain ⟨rfl,rfl⟩:=h
   rw [Nat.eq_of_beq_eq_true e];exact sort_ok
  ·split at h
   ·rename_i e
    simp only [Option.some.injEq,Prod.mk.injEq] at h
    obtain ⟨rfl,rfl⟩:=h
    rw [Nat.eq_of_beq_eq_true e];exact compact_ok
   ·cases h
 ·change grTab g=some E at h
  unfold grTab at h
  split at h
  ·rename_i e
   simp only [Option.some.injEq] at h;subst h
   rw [Nat.eq_of_beq_eq_true e];exact grow_ok
  ·cases h
 ·rw [Nat.eq_of_beq_eq_true h]
  exact ⟨Try.stoodInHeld69,Try.eqGuardType69,by kernel_rfl⟩
end Go.Ev
set_option linter.unusedVariables false
set_option linter.unusedSimpArgs false
namespace Go.Ev
open Go Go.Proofs
set_option maxRecDepth 8000
noncomputable def cfr (mv:List Nat) (nt:Nat):Cfg:={ cf mv nt with rnd:=true }
theorem cfrOk (mv:List Nat) (nt:Nat):COk Try.prog (cfr mv nt):=⟨(cfOk mv nt).cfg,ipsOk_same (cfOk mv nt).ip rfl rfl rfl,(cfOk mv nt).ro⟩
end Go.Ev
set_option linter.unusedVariables false
set_option linter.unusedSimpArgs false
namespace Go.Ev
open Go Go.RowKit
variable {P : Program}
section
variable {CE : CEx} {c : Cfg} {G G' : Sta} {own : Own} {a : Act} {w : World} {ops : Array Oper} {X : Nat → Nat → Bool}
variable {F : Fence} {n : Nat} {Q : Exit → Act → World → Prop}
def Tp (ops:Array Oper):List Ent→Prop
 | []=>True
 | x :: r=>(∀ o,ops[x.i]?=some o→∀ e∈o.after,Region.binds .any e=true→e.on < ops.size∧∀ y∈x :: r,e.on≠y.i)∧Tp ops r
def entOkX (ops:Array Oper) (X:Nat→Nat→Bool):List Ent→Prop
 | []=>True
 | x :: r=>(∀ y∈r,anc ops ops.size x.i y.i=false→X x.i y.i=false→x.ind y)∧entOkX ops X r
theorem Tp.mid:∀ {p:List Ent} {y:Ent} {r:List Ent},Tp ops (p++y :: r)→Tp ops (p++r)
 | [],y,r,h=>h.2
 | x :: p,y,r,h=>by
   refine ⟨fun o ho e he hb=>?_,Tp.mid h.2⟩
   obtain ⟨h1,h2⟩:=h.1 o ho e he hb
   refine ⟨h1,fun z hz=>h2 z ?_⟩
   show z∈(x :: p)++y :: r
   have hz:z∈(x :: p)++r:=hz
   rcases List.mem_append.1 hz with hz | hz
   ·exact List.mem_append_left _ hz
   ·exact List.mem_append_right _ (List.mem_cons_of_mem _ hz)
theorem entOkX.mid:∀ {p:List Ent} {y:Ent} {r:List Ent},entOkX ops X (p++y :: r)→(∀ x∈p,anc ops ops.size x.i y.i=false→X x.i y.i=false→x.ind y)∧entOkX ops X (p++r)
 | [],y,r,h=>⟨fun x hx=>by simp at hx,h.2⟩
 | x :: p,y,r,h=>by
   obtain ⟨h1,h2⟩:=h
   obtain ⟨h3,h4⟩:=entOkX.mid h2
   refine ⟨fun z hz=>?_,fun z hz=>h1 z ?_,h4⟩
   ·rcases List.mem_cons.1 hz with rfl | hz
    ·exact h1 y (by simp)
    ·exact h3 z hz
   ·have hz:z∈p++r:=hz
    show z∈p++y :: r
    rcases List.mem_append.1 hz with hz | hz
    ·exact List.mem_append_left _ hz
    ·exact List.mem_append_right _ (List.mem_cons_of_mem _ hz)
structure Pl (ops:Array Oper) (X:Nat→Nat→Bool) (es:List Ent) (listed:Array Bool):Prop where
 sz:listed.size=ops.size
 cl:Closed ops listed
 ls:∀ i,i < ops.size→(listed.getD i true=false↔i∈es.map (·.i))
 lt:∀ x∈es,x.i < ops.size
 nd:(es.map (·.i)).Nodup
 tp:Tp ops es
 ok:entOkX ops X es
theorem Pl.pick {es:List Ent} {listed:Array Bool} (h:Pl ops X es listed) {i:Nat} (hi:i∈Region.ready .any ops listed) (hX:∀ x∈es,x.i≠i→X x.i i=false) (hrun:Runs CE (stepRM c ops) es G G') :
 ∃ (y:Ent) (es':List Ent),y.i=i∧(stepRM c ops y.i).wp CE G [] (fun U' T'=>U'=y.U∧T'=y.T)∧Runs CE (stepRM c ops) es' (app y.U G) G'∧Pl ops X es' (listed.setIfInBounds i true)∧es'.length+1=es.length∧(∀ z∈es',z∈es)∧(∀ z∈es',z.i≠i)∧∀ z∈es,z.i≠i→z∈es':=by
 obtain ⟨h1,o,ho,hready⟩:=mem_ready.1 hi
 have hilt:i < ops.size:=(Array.getElem?_eq_some_iff.1 ho).1
 have hmem:=(h.ls i hilt).1 h1
 obtain ⟨y,hy,rfl⟩:=List.mem_map.1 hmem
 obtain ⟨p,r,rfl⟩:=List.append_of_mem hy
 obtain ⟨hm1,hm2⟩:=entOkX.mid h.ok
 have hnd:=h.nd
 have hnotin:∀ z∈p++r,z.i≠y.i:=by
  intro z hz e
  rw [List.map_append,List.map_cons,List.nodup_append,List.nodup_cons] at hnd
  rcases List.mem_append.1 hz with hz | hz
  ·exact hnd.2.2 z.i (List.mem_map.2 ⟨z,hz,rfl⟩) y.i (by simp) e
  ·exact hnd.2.1.1 (e▸List.mem_map.2 ⟨z,hz,rfl⟩)
 have hind:∀ x∈p,x.ind y:=by
  intro x hx
  refine hm1 x hx ?_ (hX x (List.mem_append_left _ hx) (hnotin x (List.mem_append_left _ hx)))
  cases ha:anc ops ops.size x.i y.i with
  | false=>rfl
  | true=>
    have hxl:=anc_listed h.sz h.cl ops.size x.i y.i ha (fun o' ho' e he hb=>by rw [ho] at ho';cases ho';exact hready e he hb)
    have hxlt:=h.lt x (List.mem_append_left _ hx)
    have:listed.getD x.i true=false:=(h.ls x.i hxlt).2 (by simp [List.mem_map];exact .inl ⟨x,hx,rfl⟩)
    have hsz:=h.sz
    simp only [Array.getD_eq_getD_getElem?,Array.getElem?_eq_getElem (show x.i < listed.size by omega),Option.getD_some] at hxl this
    rw [hxl] at this;cases this
 obtain ⟨r1,r2⟩:=Runs.front hind hrun
 have hsub:(p++r).Sublist (p++y :: r):=List.Sublist.append (List.Sublist.refl _) (List.sublist_cons_self _ _)
 refine ⟨y,p++r,rfl,r1,r2,⟨by simpa using h.sz,?_,?_,fun x hx=>h.lt x (hsub.mem hx),hnd.sublist (hsub.map _),h.tp.mid,hm2⟩,by simp;omega,fun z hz=>hsub.mem hz,hnotin,?_⟩
 ·intro j o' ho' hj e he hb
  have hlst:listed.getD e.on false=true→(listed.setIfInBounds y.i true).getD e.on false=true:=fun h=>getD_set_true h
  by_cases hjy:y.i=j
  ·subst hjy
   rw [ho] at ho';cases ho'
   exact hlst (hready e he hb)
  ·rw [getD_set_ne true hjy] at hj
   exact hlst (h.cl j o' ho' hj e he hb)
 ·intro j hj
  by_cases hjy:y.i=j
  ·subst hjy
   have hsz:=h.sz
   have:(listed.setIfInBounds y.i true).getD y.i true=true:=by
    simp [Array.getD_eq_getD_getElem?,Array.getElem?_setIfInBounds,show y.i < listed.size by omega]
   rw [this]
   simp only [Bool.true_eq_false,false_iff]
   intro hmem
   obtain ⟨z,hz,e⟩:=List.mem_map.1 hmem
   exact hnotin z hz e
  ·rw [getD_set_ne true hjy,h.ls j hj]
   simp only [List.map_append,List.map_cons,List.mem_append,List.mem_cons]
   constructor
   ·rintro (h | h | h)
    ·exact .inl h
    ·exact absurd h.symm hjy
    ·exact .inr h
   ·rintro (h | h)
    ·exact .inl h
    ·exact .inr (.inr h)
 ·intro z hz hzi
  rcases List.mem_append.1 hz with hz | hz
  ·exact List.mem_append_left _ hz
  ·rcases List.mem_cons.1 hz with rfl | hz
   ·exact absurd rfl hzi
   ·exact List.mem_append_right _ hz
theorem Pl.done {es:List Ent} {listed:Array Bool} (he:es=[]) (s:St P c.nt G own a w) (h:Runs CE (stepRM c ops) es G G')
 (hq:∀ own' a' w',St P c.nt G' own' a' w'→Tr own w own' w'→a'.defers=a.defers→Q .normal a' w'):Q .normal a w:=by
 subst he
 have:G=G':=h
 subst this
 exact hq own a w s (Tr.refl _ _) rfl
end
end Go.Ev
set_option linter.unusedVariables false
set_option linter.unusedSimpArgs false
namespace Go.Ev
open Go Go.RowKit
variable {P : Program}
section
variable {c : Cfg} {ops : Array Oper}
end
def steal (b off:Nat) (G:Sta):Sta:=
 match look G b (some off) with
 | some (.rf sb j 0 n)=>match look G sb (some j) with
   | some (.own E l)=>match Nat.beq (b % 3) 1 || isM b with
     | true=>G
     | false=>app [.leaf sb j .bad,.leaf b off (.own E (l.take n))] G
   | _=>G
 | _=>G
theorem Wk.steal {c:Cfg} {G:Sta} (b off:Nat):Wk P c.nt G (Ev.steal b off G):=by
 intro own a w s
 unfold Ev.steal
 split
 ·rename_i sb j n h1
  split
  ·rename_i E l h2
   split
   ·exact ⟨own,s,Tr.refl _ _⟩
   ·rename_i hb
    simp only [Bool.or_eq_false_iff] at hb
    obtain ⟨hb,hmm⟩:=hb
    have hb:b % 3≠1:=fun e=>by rw [e] at hb;simp at hb
    simp only [look,Option.bind_eq_some_iff,Option.filter_eq_some_iff] at h1
    obtain ⟨v,hg,hv,_⟩:=h1
    obtain ⟨k,arr,TT,e1,e2,e3,e4⟩:=s.boxes b v hb hmm hg
    have hoff:off < v.leaves.length:=(List.getElem?_eq_some_iff.1 hv).1
    obtain ⟨u,hu⟩:∃ u,arr[off]?=some u:=⟨arr[off]'(by omega),by simp [show off < arr.size by omega]⟩
    have hr:SlV P G own w sb j 0 n u:=e4 off _ _ hv hu
    obtain ⟨_,hown⟩:=slv_own h2 hr
    obtain ⟨r1,s1,K1,K2⟩:=store_own (c:=c) s hb hmm e1 (show lenOf G b=some v.leaves.length by simp [lenOf,hg]) hoff hown
    rw [setCell_self e2 hu] at s1 K2
    exact ⟨_,s1,K1.tr.trans K2.tr⟩
  ·exact ⟨own,s,Tr.refl _ _⟩
 ·exact ⟨own,s,Tr.refl _ _⟩
theorem Sem.cfg {c c':Cfg} {x:Code} {G:Sta} {K:Ex→Sta→Prop} (h1:c'.nt=c.nt) (h2:c'.rnd=c.rnd) (h:Sem P c' x G K):Sem P c x G K:=by
 unfold Sem WideC at h ⊢
 rw [h1,h2] at h
 exact h
theorem COk.vs {c:Cfg} (h:COk P c) (vs:Nat→Bool):COk P { c with vs:=vs }:=⟨h.cfg,ipsOk_same h.ip rfl rfl rfl,h.ro⟩
theorem Wk.st {c:Cfg} {G G':Sta} {keep:List Nat} (b off:Nat) (h:Ev.tidy [] keep (Ev.steal b off G)=G'):Wk P c.nt G G':=(Wk.steal b off).trans (Wk.eq h)
end Go.Ev
set_option linter.unusedVariables false
set_option linter.unusedSimpArgs false
namespace Go.Ev
open Go Go.RowKit
variable {P : Program}
theorem RF.to_no {own:Own} {w:World} {x:FV} {u:Value} (h:RF own w x u):RF no w x u:=h.mono0 fun _ _=>rfl
theorem st_temps {G:Sta} {nt:Nat} {a:Act} {w:World} (hs:a.tmps.size=nt) (h:∀ b v,get G b=some v→∃ t u,b=tb t∧a.tmps[t]?=some u∧RL P G no w b v u):St P nt G no a w:=
 ⟨hs,fun t v e=>by
   obtain ⟨t',u,e1,e2,e3⟩:=h _ _ e
   have:=tb_inj e1;subst this;exact ⟨u,e2,e3⟩,
  fun b v hb _ e=>by obtain ⟨t,u,rfl,_⟩:=h _ _ e;simp [tb] at hb,
  fun b v hm e=>by obtain ⟨t,u,rfl,_⟩:=h _ _ e;exact absurd (by simp only [tb];omega) (isM_box hm),
  fun k k' o h=>(nomatch h),fun k o h=>(nomatch h)⟩
section
variable {c : Cfg} {F : Fence} {n : Nat} {Q : Exit → Act → World → Prop} {ops : Array Oper}
def nod (ts:List Tmp) (ops:List Oper):Bool:=ops.all fun o=>ts.all fun t=>o.dst != some t
theorem nod_get {ts:List Tmp} {ops:Array Oper} (h:nod ts ops.toList=true) {i:Nat} {o:Oper} (ho:ops[i]?=some o) {t:Tmp} (ht:t∈ts):o.dst≠some t:=by
 have:=List.all_eq_true.1 (List.all_eq_true.1 h o (by rw [← Array.getElem?_toList] at ho;exact List.mem_of_getElem? ho)) t ht
 simpa using this
theorem wpOps_keep5 {t0 t1 t2 t3 t4:Tmp} (l:List Nat) {a:Act} {w:World} (hd:nod [t0,t1,t2,t3,t4] ops.toList=true)
 (h:wpOpsIn F n P ops (fun e a' w'=>(e=.normal→a'.tmps[t4]?=a.tmps[t4]?)→(e=.normal→a'.tmps[t3]?=a.tmps[t3]?)→(e=.normal→a'.tmps[t2]?=a.tmps[t2]?)→(e=.normal→a'.tmps[t1]?=a.tmps[t1]?)→(e=.normal→a'.tmps[t0]?=a.tmps[t0]?)→Q e a' w') l a w):wpOpsIn F n P ops Q l a w:=
 wpOps_keep (t:=t0) _ (fun i _ o h=>nod_get hd h (by simp)) (wpOps_keep (t:=t1) _ (fun i _ o h=>nod_get hd h (by simp)) (wpOps_keep (t:=t2) _ (fun i _ o h=>nod_get hd h (by simp)) (wpOps_keep (t:=t3) _ (fun i _ o h=>nod_get hd h (by simp)) (wpOps_keep (t:=t4) _ (fun i _ o h=>nod_get hd h (by simp)) h))))
structure Kp5 (t0 t1 t2 t3 t4:Tmp) (a a':Act):Prop where
 k0:a'.tmps[t0]?=a.tmps[t0]?
 k1:a'.tmps[t1]?=a.tmps[t1]?
 k2:a'.tmps[t2]?=a.tmps[t2]?
 k3:a'.tmps[t3]?=a.tmps[t3]?
 k4:a'.tmps[t4]?=a.tmps[t4]?
theorem regK (hc:COk P c) (hF:WideF P F) {t0 t1 t2 t3 t4:Tmp} {id:Nat} {q:List Ora} {G G':Sta} {obs:List Prop} {log:List Lg} {own:Own} {a:Act} {w:World} (h:evOps (CallE P) c ops false ops.toList 0 [] G q=some (obs,log,G')) (ho:AllP obs)
 (hd:nod [t0,t1,t2,t3,t4] ops.toList=true) (s:St P c.nt G own a w)
 (hq:∀ own' a' w',St P c.nt G' own' a' w'→Tr own w own' w'→a'.defers=a.defers→Kp5 t0 t1 t2 t3 t4 a a'→Q .normal a' w'):(Code.region id ops false).wpIn F n P Q a w:=by
 refine wpIn_region (wpOps_keep5 _ hd ?_)
 refine wpOps_pre hc hF (pre:=ops.toList) (rest:=[]) (by simp) h ho s ?_
 intro own' a' w' s' t' d' h4 h3 h2 h1 h0
 exact hq own' a' w' s' t' d' ⟨h0 rfl,h1 rfl,h2 rfl,h3 rfl,h4 rfl⟩
theorem nmt {a:Act} {t:Tmp} {i:Int} (h:a.tmps[t]?=some (.int .i64 i)) {N:Nat} {k:Nat} (e:i=k):(match a.tmps[t]? with
 | some (Value.int _ v)=>N - v.toNat
 | _=>0)=N - k:=by rw [h];subst e;rfl
theorem yloop (hc:COk P c) (hF:WideF P F) {bx b1 iB i2 i3 iD:Nat} {oB o2 o3 oD:Array Oper} {tl tn ti tc te ty tx to_ tq t1:Tmp} {x:Code} (hnt:0 < c.nt∧to_ < c.nt∧tl < c.nt∧tn < c.nt∧ti < c.nt∧te < c.nt)
 (hx:x=.block bx (.loop (.seq (.region iB oB false) (.seq (.cond (.tmp tc) .skip (.exit bx)) (.seq (.block b1 (.seq (.region i2 o2 false) (.seq (.region i3 o3 false) (.cond (.tmp tq) .ret .skip)))) (.region iD oD false))))))
 {yv s:Value} {vs:List Value} (hyc:yv.oneCell'=true) (hvl:(vs.length:Int)≤9223372036854775807)
 (dB:nod [0,t1,tl,tn,ti] oB.toList=true) (d2:nod [0,t1,tl,tn,ti] o2.toList=true) (d3:nod [0,t1,tl,tn,ti] o3.toList=true) (dD:nod [0,t1,tl,tn,t1] oD.toList=true)
 {pre:List Oper} {oc on:Oper} {ats:Array TypeId} (h3:o3.toList=pre++[oc,on]) (hoc:oc.op=.call { callee:=.value (.tmp ty),args:=#[.tmp tx],argTypes:=ats }) (hocd:oc.dst=some to_) (hocg:oc.guard=none)
 (hlt:0 < tl∧tl < tn∧tn < ti∧0 < te)
 (kB:∀ i:Nat,∃ log G',evOps (CallE P) c oB false oB.toList 0 [] [(1,.f (.pv yv)),(tb tl,.f (.sl (vs.map .pv))),(tb tn,.f (.pv (.int .i64 (vs.length:Int)))),(tb ti,.f (.pv (.int .i64 (i:Int))))] []=some ([],log,G')∧get G' (tb tc)=some (.f (.pv (.bool (decide ((i:Int) < (vs.length:Int)))))))
 (k2:∀ (i:Nat) v,∃ log G',evOps (CallE P) c o2 false o2.toList 0 [] [(1,.f (.pv yv)),(tb tl,.f (.sl (vs.map .pv))),(tb tn,.f (.pv (.int .i64 (vs.length:Int)))),(tb ti,.f (.pv (.int .i64 (i:Int))))] [.e (.pv v)]=some ([(0:Int)≤i,(vs.map FV.pv)[(i:Int).toNat]?=some (.pv v)],log,G')∧get G' (tb te)=some (.f (.pv v)))
 (k3:∀ v,∃ log G',evOps (CallE P) c o3 false pre 0 [] [(1,.f (.pv yv)),(tb te,.f (.pv v))] []=some ([],log,G')∧get G' (tb ty)=some (.f (.pv yv))∧get G' (tb tx)=some (.f (.pv v)))
 (kN:∀ b,∃ log G',evOps (CallE P) c o3 false [on] (pre.length+1) [] [(tb to_,.f (.pv (.bool b)))] []=some ([],log,G')∧get G' (tb tq)=some (.f (.pv (.bool (!b)))))
 (kD:∀ i:Nat,∃ log G',evOps (CallE P) c oD false oD.toList 0 [] [(1,.f (.pv yv)),(tb tl,.f (.sl (vs.map .pv))),(tb tn,.f (.pv (.int .i64 (vs.length:Int)))),(tb ti,.f (.pv (.int .i64 (i:Int))))] []=some ([],log,G')∧get G' (tb ti)=some (.f (.pv (.int .i64 (IntKind.wrap .i64 ((i:Int)+1))))))
 (hond:to_≠0∧to_≠t1∧to_≠tl∧to_≠tn∧to_≠ti)
 {own:Own} {w0:World} (hlt0:∀ k o,own k=some o→k < w0.heap.size) {lp:Nat} (hyv:yv=Value.func (.yield lp) #[] #[]) {J:Nat→World→Prop} {S:World→Prop} {ok:Nat→Array Value→Prop} {M k0:Nat}
 (hst:∀ i W1 W2,J i W1→Grow W1 W2→J i W2) (hss:∀ W1 W2,S W1→Grow W1 W2→S W2)
 (hyield:∀ m i x W1,J i W1→i < M→ok i x→KU (fun k=>k < w0.heap.size∧(own k=none∨∃ o,own k=some (.al o))) w0 W1→YieldAt F m P lp x W1 fun e W'=>((e=.returned (.bool true)∧J (i+1) W')∨(e=.returned (.bool false)∧S W'))∧KU (fun k=>k < w0.heap.size∧(own k=none∨∃ o,own k=some (.al o))) w0 W')
 (hM:k0+vs.length≤M) (hok:∀ i v u,vs[i]?=some v→u=v→ok (k0+i) #[u]) (hsl:RF own w0 (.sl (vs.map .pv)) s)
 {a:Act} {W:World} (z0:a.tmps.size=c.nt) (z1:a.tmps[0]?=some yv) (z2:a.tmps[tl]?=some s) (z3:a.tmps[tn]?=some (.int .i64 (vs.length:Int))) (z4:a.tmps[ti]?=some (.int .i64 0)) (zd:a.defers=[]) (hJ:J k0 W) (hK:KU (fun k=>k < w0.heap.size∧(own k=none∨∃ o,own k=some (.al o))) w0 W)
 (hcont:∀ a' W',a'.tmps.size=c.nt→a'.tmps[0]?=some yv→a'.tmps[t1]?=a.tmps[t1]?→a'.defers=[]→J (k0+vs.length) W'→KU (fun k=>k < w0.heap.size∧(own k=none∨∃ o,own k=some (.al o))) w0 W'→Q .normal a' W')
 (hret:∀ a' W',a'.defers=[]→S W'→Q .ret a' W'):x.wpIn F n P Q a W:=by
 subst hx
 have hU:∀ k,(k < w0.heap.size∧(own k=none∨∃ o,own k=some (.al o)))→k < w0.heap.size:=fun k h=>h.1
 have base:∀ (a:Act) (w:World) (i:Nat),a.tmps.size=c.nt→a.tmps[0]?=some yv→a.tmps[tl]?=some s→a.tmps[tn]?=some (.int .i64 (vs.length:Int))→a.tmps[ti]?=some (.int .i64 (i:Int))→KU (fun k=>k < w0.heap.size∧(own k=none∨∃ o,own k=some (.al o))) w0 w→
  St P c.nt [(1,.f (.pv yv)),(tb tl,.f (.sl (vs.map .pv))),(tb tn,.f (.pv (.int .i64 (vs.length:Int)))),(tb ti,.f (.pv (.int .i64 (i:Int))))] no a w:=by
  intro a w i hs h0 h1 h2 h3 hk
  refine st_temps hs fun b v e=>?_
  simp only [get] at e
  split at e
  ·rename_i hb;cases e;exact ⟨0,yv,hb,h0,⟨rfl,.pv _ hyc⟩⟩
  ·split at e
   ·rename_i hb;cases e;exact ⟨tl,s,hb,h1,⟨rfl,(hsl.mono (hk.tr hlt0)).to_no⟩⟩
   ·split at e
    ·rename_i hb;cases e;exact ⟨tn,_,hb,h2,⟨rfl,.pv _ rfl⟩⟩
    ·split at e
     ·rename_i hb;cases e;exact ⟨ti,_,hb,h3,⟨rfl,.pv _ rfl⟩⟩
     ·cases e
 refine wpIn_block ?_
 refine wpIn_loop (fun a' w'=>∃ i:Nat,i≤vs.length∧J (k0+i) w'∧KU (fun k=>k < w0.heap.size∧(own k=none∨∃ o,own k=some (.al o))) w0 w'∧a'.tmps.size=c.nt∧a'.tmps[0]?=some yv∧a'.tmps[tl]?=some s∧a'.tmps[tn]?=some (.int .i64 (vs.length:Int))∧a'.tmps[ti]?=some (.int .i64 (i:Int))∧a'.tmps[t1]?=a.tmps[t1]?∧a'.defers=[])
  (fun a' _=>match a'.tmps[ti]? with
    | some (Value.int _ v)=>vs.length - v.toNat
    | _=>0) ⟨0,Nat.zero_le _,hJ,hK,z0,z1,z2,z3,z4,rfl,zd⟩ ?_
 rintro a1 w1 ⟨i,hi,hJ1,hk1,y0,y1,y2,y3,y4,y5,yd⟩
 rw [nmt y4 rfl]
 refine wpIn_seq ?_
 obtain ⟨logB,GB,eB,gB⟩:=kB i
 refine regK hc hF eB trivial dB (base a1 w1 i y0 y1 y2 y3 y4 hk1) ?_
 intro ownB aB wB sB tB dfB KB
 have hJB:=hst _ _ _ hJ1 (tr_no tB)
 have hkB:=(tr_no tB).ku hk1 hU
 have zB:=sB.size
 have pc:=temp_pv (t:=tc) sB gB
 refine wpIn_seq ?_
 refine wpIn_cond (show aB.eval (.tmp tc)=.bool (decide ((i:Int) < (vs.length:Int))) from getD_of pc) ?_
 rcases Nat.lt_or_ge i vs.length with hl | hl'
 case' inr=>
  rw [show decide ((i:Int) < (vs.length:Int))=false from by simp;omega]
  refine wpIn_exit ?_
  have hie:i=vs.length:=by omega
  subst hie
  show Exit.inBlock bx Q (.exit bx) aB wB
  simp only [Exit.inBlock,if_true]
  exact hcont aB wB zB (KB.k0.trans y1) (KB.k1.trans y5) (dfB.trans yd) hJB hkB
 rw [show decide ((i:Int) < (vs.length:Int))=true from by simp;omega]
 refine wpIn_skip ?_
 refine wpIn_seq (wpIn_block (wpIn_seq ?_))
 obtain ⟨v,hv⟩:∃ v,vs[i]?=some v:=⟨vs[i],by simp⟩
 obtain ⟨log2,G2,e2,g2⟩:=k2 i v
 refine regK hc hF e2 ⟨by omega,by rw [Int.toNat_natCast,List.getElem?_map,hv];rfl,trivial⟩ d2 (base aB wB i zB (KB.k0.trans y1) (KB.k2.trans y2) (KB.k3.trans y3) (KB.k4.trans y4) hkB) ?_
 intro own2 a2 w2 s2 t2 df2 K2
 have hJ2:=hst _ _ _ hJB (tr_no t2)
 have hk2:=(tr_no t2).ku hkB hU
 have pe:=temp_pv (t:=te) s2 g2
 have hve:v.oneCell'=true:=by
  obtain ⟨u,hu,hr⟩:=s2.temps te _ g2
  have hr:RC own2 w2 (.f (.pv v)) u:=hr
  cases hr.2;assumption
 obtain ⟨log3,G3,e3,g3,g3x⟩:=k3 v
 refine wpIn_seq (wpIn_region (wpOps_keep5 _ d3 ?_))
 have s2':St P c.nt [(1,.f (.pv yv)),(tb te,.f (.pv v))] no a2 w2:=by
  refine st_temps s2.size fun b v' e=>?_
  simp only [get] at e
  split at e
  ·rename_i hb;cases e;exact ⟨0,yv,hb,K2.k0.trans (KB.k0.trans y1),⟨rfl,.pv _ hyc⟩⟩
  ·split at e
   ·rename_i hb;cases e;exact ⟨te,_,hb,pe,⟨rfl,.pv _ hve⟩⟩
   ·cases e
 refine wpOps_pre hc hF (pre:=pre) (rest:=[oc,on]) h3 e3 trivial s2' ?_
 intro own3 a3 w3 s3 t3 df3
 have ry:=temp_pv (t:=ty) s3 g3
 have rx:=temp_pv (t:=tx) s3 g3x
 have hJ3:=hst _ _ _ hJ2 (tr_no t3)
 have hk3:=(tr_no t3).ku hk2 hU
 show wpOpsIn F n P o3 _ (pre.length :: (pre.length+1) :: []) a3 w3
 have hocI:o3[pre.length]?=some oc:=by
  rw [← Array.getElem?_toList,h3,List.getElem?_append_right (Nat.le_refl _)];simp
 unfold wpOpsIn
 rw [hocI]
 dsimp only
 rw [if_pos (by simp [Region.wanted,hocg])]
 have hv11:a3.eval (.tmp ty)=.func (.yield lp) #[] #[]:=by rw [← hyv];show a3.tmps.getD ty _=_;exact getD_of ry
 refine wpIn_of hF.fn (by simp [hoc]) ?_
 have hargs:(#[Operand.tmp tx]:Array Operand).map a3.eval=#[v]:=by
  have e1:a3.eval (.tmp tx)=v:=by show a3.tmps.getD tx _=_;exact getD_of rx
  simp [e1]
 rw [run_callY hoc hv11,hargs]
 obtain ⟨fn',tmps',as',bd',hrun,hround⟩:=hyield (n - 1) (k0+i) _ w3 hJ3 (by omega) (hok i v v hv rfl) hk3
 rw [hrun,Oper.uponIn_round]
 refine ⟨fun e=>(by rw [hF.deep] at e;cases e),hround.mono ?_⟩
 rintro e w4 ⟨hJS,hk4⟩
 obtain ⟨b,rfl,hB⟩:∃ b,e=.returned (.bool b)∧((b=true∧J (k0+i+1) w4)∨(b=false∧S w4)):=by
  rcases hJS with ⟨rfl,h⟩ | ⟨rfl,h⟩
  ·exact ⟨true,rfl,.inl ⟨rfl,h⟩⟩
  ·exact ⟨false,rfl,.inr ⟨rfl,h⟩⟩
 dsimp only
 rw [hocd]
 have s4:St P c.nt [(tb to_,.f (.pv (.bool b)))] no (a3.put (some to_) (.bool b)) w4:=by
  have s00:St P c.nt [] no a3 w4:=⟨s3.size,fun t v e=>(by cases e),fun b v hb _ e=>(by cases e),fun b v hm e=>(by cases e),fun k k' o h=>(nomatch h),fun k o h=>(nomatch h)⟩
  exact s00.set_pure (t:=to_) hnt.2.1 ⟨rfl,.pv _ rfl⟩
 obtain ⟨logN,GN,eN,gN⟩:=kN b
 have honI:o3[pre.length+1]?=some on:=by
  rw [← Array.getElem?_toList,h3,List.getElem?_append_right (by omega)];simp
 obtain ⟨es,x1,x2,_⟩:=evOps_pre (P:=P) (c:=c) (obs:=[]) [on] (p:=pre++[oc]) (rest:=[]) (by rw [h3];simp) (by rw [List.length_append];exact eN) trivial
 have hes:[pre.length+1]=es.map (·.i)++[]:=by rw [x1,List.length_append];rfl
 rw [hes]
 refine runs_pre hc.cfg hc.ip (fun _ _ _ _ _ h=>h) hF _ es s4 x2 ?_
 intro own5 a5 w5 s5 t5 df5 c4 c3 c2 c1 c0
 have v0:a5.tmps[0]?=some yv:=(c0 rfl).trans (K2.k0.trans (KB.k0.trans y1))
 have v1:a5.tmps[t1]?=a.tmps[t1]?:=(c1 rfl).trans (K2.k1.trans (KB.k1.trans y5))
 have v2:a5.tmps[tl]?=some s:=(c2 rfl).trans (K2.k2.trans (KB.k2.trans y2))
 have v3:a5.tmps[tn]?=some (.int .i64 (vs.length:Int)):=(c3 rfl).trans (K2.k3.trans (KB.k3.trans y3))
 have v4:a5.tmps[ti]?=some (.int .i64 (i:Int)):=(c4 rfl).trans (K2.k4.trans (KB.k4.trans y4))
 have vd:a5.defers=[]:=df5.trans (df3.trans (df2.trans (dfB.trans yd)))
 have hk5:=(tr_no t5).ku hk4 hU
 refine wpIn_cond (show a5.eval (.tmp tq)=.bool (!b) from getD_of (temp_pv (t:=tq) s5 gN)) ?_
 rcases hB with ⟨rfl,hJ4⟩ | ⟨rfl,hS4⟩
 case' inr=>
  refine wpIn_ret ?_
  exact hret a5 w5 vd (hss _ _ hS4 (tr_no t5))
 have hJ5:=hst _ _ _ hJ4 (tr_no t5)
 refine wpIn_skip ?_
 obtain ⟨logD,GD,eD,gD⟩:=kD i
 refine regK hc hF eD trivial dD (base a5 w5 i s5.size v0 v2 v3 v4 hk5) ?_
 intro own6 a6 w6 s6 t6 df6 K6
 have u4:=temp_pv (t:=ti) s6 gD
 rw [wrap64 (by omega) (by omega)] at u4
 have u4':a6.tmps[ti]?=some (.int .i64 ((i+1:Nat):Int)):=by rw [u4];congr 2
 refine ⟨⟨i+1,hl,by have:=hst _ _ _ hJ5 (tr_no t6);rwa [Nat.add_assoc] at this,(tr_no t6).ku hk5 hU,s6.size,K6.k0.trans v0,K6.k2.trans v2,K6.k3.trans v3,u4',K6.k1.trans v1,df6.trans vd⟩,?_⟩
 rw [nmt u4' rfl]
 omega
end
end Go.Ev
set_option linter.unusedVariables false
set_option linter.unusedSimpArgs false
namespace Go.Ev
open Go Go.RowKit
variable {P : Program}
theorem sl_one {own:Own} {w:World} {vs:List Value} {s:Value} (h:RF own w (.sl (vs.map .pv)) s) {i:Nat} {v:Value} (hv:vs[i]?=some v):v.oneCell'=true:=by
 cases h with
 | sl _ a n c ad sz hn hc ha hsz hcell hr=>
   have hx:(vs.map FV.pv)[i]?=some (.pv v):=by rw [List.getElem?_map,hv];rfl
   obtain ⟨u,hu⟩:=hcell i _ 0 (.pv v) hx rfl
   have:=hr i _ 0 (.pv v) u hx rfl hu
   cases this;assumption
section
variable {c : Cfg} {F : Fence} {n : Nat} {Q : Exit → Act → World → Prop} {ops : Array Oper}
theorem yhead (hc:COk P c) (hF:WideF P F) {id:Nat} {tl tn ti:Tmp} {pre rest:List Oper} (hp:ops.toList=pre++rest) {yv lb s:Value} {X:FV} {vs:List Value} (hyc:yv.oneCell'=true) (ht:tl < c.nt)
 (kA:∃ log G',evOps (CallE P) c ops false pre 0 [] [(1,.f (.pv yv)),(4,.fp X 0)] []=some ([],log,G')∧get G' (tb tl)=some (.f (.pv s)))
 (kR:∃ log G',evOps (CallE P) c ops false rest pre.length [] [(tb tl,.f (.sl (vs.map .pv)))] []=some ([],log,G')∧get G' (tb tn)=some (.f (.pv (.int .i64 (vs.length:Int))))∧get G' (tb ti)=some (.f (.pv (.int .i64 0))))
 (d1:nod [0,1,1,1,1] ops.toList=true) (d2:nod [tl] rest=true)
 {own:Own} {w0:World} (hlt0:∀ k o,own k=some o→k < w0.heap.size) (hX:RC own w0 (.fp X 0) lb) (hsl:RF own w0 (.sl (vs.map .pv)) s)
 {a:Act} {W:World} (z0:a.tmps.size=c.nt) (z1:a.tmps[0]?=some yv) (z2:a.tmps[1]?=some lb) (zd:a.defers=[]) (hK:KU (fun k=>k < w0.heap.size∧(own k=none∨∃ o,own k=some (.al o))) w0 W)
 (hq:∀ a' W',a'.tmps.size=c.nt→a'.tmps[0]?=some yv→a'.tmps[1]?=some lb→a'.tmps[tl]?=some s→a'.tmps[tn]?=some (.int .i64 (vs.length:Int))→a'.tmps[ti]?=some (.int .i64 0)→a'.defers=[]→Grow W W'→KU (fun k=>k < w0.heap.size∧(own k=none∨∃ o,own k=some (.al o))) w0 W'→Q .normal a' W'):(Code.region id ops false).wpIn F n P Q a W:=by
 have hU:∀ k,(k < w0.heap.size∧(own k=none∨∃ o,own k=some (.al o)))→k < w0.heap.size:=fun k h=>h.1
 refine wpIn_region (wpOps_keep5 _ d1 ?_)
 obtain ⟨log,G',e,g⟩:=kA
 have s0:St P c.nt [(1,.f (.pv yv)),(4,.fp X 0)] no a W:=by
  refine st_temps z0 fun b v e=>?_
  simp only [get] at e
  split at e
  ·rename_i hb;cases e;exact ⟨0,yv,hb,z1,⟨rfl,.pv _ hyc⟩⟩
  ·split at e
   ·rename_i hb;cases e;exact ⟨1,lb,hb,z2,fp_no (RC.fp_mono (hK.tr hlt0) hX)⟩
   ·cases e
 refine wpOps_pre hc hF (pre:=pre) (rest:=rest) hp e trivial s0 ?_
 intro own1 a1 w1 s1 t1 df1
 have p:=temp_pv (t:=tl) s1 g
 have hk1:=(tr_no t1).ku hK hU
 have s1':St P c.nt [(tb tl,.f (.sl (vs.map .pv)))] no a1 w1:=by
  refine st_temps s1.size fun b v e=>?_
  simp only [get] at e
  split at e
  ·rename_i hb;cases e;exact ⟨tl,s,hb,p,⟨rfl,(hsl.mono (hk1.tr hlt0)).to_no⟩⟩
  ·cases e
 obtain ⟨log2,G2,e2,g2,g3⟩:=kR
 obtain ⟨es,x1,x2,_⟩:=evOps_pre (P:=P) (c:=c) (obs:=[]) rest (p:=pre) (rest:=[]) (by rw [hp];simp) e2 trivial
 refine wpOps_keep (t:=tl) _ (fun i hi o ho=>?_) ?_
 ·have hi':=List.mem_range'.1 hi
  obtain ⟨j,hj,rfl⟩:=hi'
  rw [Nat.one_mul,← Array.getElem?_toList,hp,List.getElem?_append_right (by omega),Nat.add_sub_cancel_left] at ho
  have:=List.all_eq_true.1 (List.all_eq_true.1 d2 o (List.mem_of_getElem? ho)) tl (by simp)
  simpa using this
 have hes:List.range' pre.length rest.length=es.map (·.i)++[]:=by rw [x1,List.append_nil]
 rw [hes]
 refine runs_pre hc.cfg hc.ip (fun _ _ _ _ _ h=>h) hF _ es s1' x2 ?_
 intro own2 a2 w2 s2 t2 df2 cl c4 c3 c2 c1 c0
 exact hq a2 w2 s2.size ((c0 rfl).trans z1) ((c1 rfl).trans z2) ((cl rfl).trans p) (temp_pv (t:=tn) s2 g2) (temp_pv (t:=ti) s2 g3) (df2.trans (df1.trans zd))
  ⟨Nat.le_trans (tr_no t1).size (tr_no t2).size,fun k hk=>((tr_no t2).keep k (Nat.lt_of_lt_of_le hk (tr_no t1).size)).trans ((tr_no t1).keep k hk),(tr_no t2).os.trans (tr_no t1).os,(tr_no t2).tape.trans (tr_no t1).tape,(tr_no t2).output.trans (tr_no t1).output⟩ ((tr_no t2).ku hk1 hU)
end
end Go.Ev
set_option linter.unusedVariables false
set_option linter.unusedSimpArgs false
namespace Go.Ev
open Go Go.Proofs Go.RowKit
set_option maxRecDepth 8000
set_option maxHeartbeats 8000000 in
theorem lists_it (A:api_Auto) (hl1:(A.Follow.length:Int)≤9223372036854775807) (hl2:(A.Starts.length:Int)≤9223372036854775807) :
 ItOk Try.prog 78 (.fp (enc_api_Auto A) 0) (A.Follow.length+A.Starts.length) (fun i=>[encs_i64 ((A.Follow++A.Starts).getD i [])]):=by
 intro own w0 lb hlb hone hlt0
 refine ⟨⟨_,Try.func78,by rfl,by rfl⟩,?_⟩
 intro F n lp J S W hF hro hku hst hss hyield hJ
 have kk:=cfOk [] 31
 obtain ⟨k,o,q1,q2,q3,q4⟩:=hlb
 obtain ⟨v0,e0,r0⟩:=q4 0 _ rfl
 obtain ⟨v1,e1,r1⟩:=q4 1 _ rfl
 obtain ⟨s1,e2,r2⟩:=q4 2 _ rfl
 obtain ⟨v3,e3,r3⟩:=q4 3 _ rfl
 obtain ⟨s2,e4,r4⟩:=q4 4 _ rfl
 obtain ⟨f1,hf1,hr1,hx1⟩:=exact_list (P:=Try.prog) (enc:=encs_i64) (sz:=1) (agg:=false) (fun x=>by rfl) (fun x=>by rfl) (fun _=>rfl) r2
 obtain ⟨f2,hf2,hr2,hx2⟩:=exact_list (P:=Try.prog) (enc:=encs_i64) (sz:=1) (agg:=false) (fun x=>by rfl) (fun x=>by rfl) (fun _=>rfl) r4
 obtain ⟨z1,hz1⟩:∃ z1,z1=f1.map fun f=>f 0:=⟨_,rfl⟩
 obtain ⟨z2,hz2⟩:∃ z2,z2=f2.map fun f=>f 0:=⟨_,rfl⟩
 have hm1:f1.map (encX false 1)=z1.map .pv:=by rw [hz1,List.map_map];rfl
 have hm2:f2.map (encX false 1)=z2.map .pv:=by rw [hz2,List.map_map];rfl
 rw [hm1] at hr1
 rw [hm2] at hr2
 have hn1:z1.length=A.Follow.length:=by rw [hz1,List.length_map,hf1]
 have hn2:z2.length=A.Starts.length:=by rw [hz2,List.length_map,hf2]
 have c0:v0.oneCell'=true:=rf_one r0 rfl
 have c1:v1.oneCell'=true:=rf_one r1 rfl
 have c2:s1.oneCell'=true:=rf_one r2 rfl
 have c3:v3.oneCell'=true:=rf_one r3 rfl
 have c4:s2.oneCell'=true:=rf_one r4 rfl
 have hX:RC own w0 (.fp (.agg [.pv v0,.pv v1,.pv s1,.pv v3,.pv s2]) 0) lb:=by
  refine ⟨k,o,q1,q2,q3,fun j y hy=>?_⟩
  match j,hy with
  | 0,hy=>cases hy;exact ⟨v0,e0,.pv _ c0⟩
  | 1,hy=>cases hy;exact ⟨v1,e1,.pv _ c1⟩
  | 2,hy=>cases hy;exact ⟨s1,e2,.pv _ c2⟩
  | 3,hy=>cases hy;exact ⟨v3,e3,.pv _ c3⟩
  | 4,hy=>cases hy;exact ⟨s2,e4,.pv _ c4⟩
  | j+5,hy=>cases hy
 obtain ⟨yv,hyv⟩:∃ yv,yv=Value.func (.yield lp) #[] #[]:=⟨_,rfl⟩
 rw [← hyv]
 have hyc:yv.oneCell'=true:=by rw [hyv];rfl
 have hU:∀ k,(k < w0.heap.size∧(own k=none∨∃ o,own k=some (.al o)))→k < w0.heap.size:=fun k h=>h.1
 have hval:∀ (x:List Int) (f:Nat→Value) (b:Bool),(f 0).oneCell'=true→(∀ u own' w' b,RL Try.prog [] own' w' b (asAV (encX false 1 f)) u→RF own w0 (encs_i64 x) u)→RF own w0 (encs_i64 x) (f 0):=fun x f _ h1 h2=>h2 (f 0) own w0 0 ⟨rfl,.pv _ h1⟩
 have hok:∀ (i:Nat) (v u:Value),(∃ (x:List Int) (f:Nat→Value),(A.Follow++A.Starts)[i]?=some x∧v=f 0∧RF own w0 (encs_i64 x) (f 0))→u=v→okAr own w0 (fun i=>[encs_i64 ((A.Follow++A.Starts).getD i [])]) i #[u]:=by
  rintro i v u ⟨x,f,h1,rfl,h2⟩ rfl
  refine ⟨[f 0],rfl,rfl,fun j y u e1 e2=>?_⟩
  dsimp only at e1
  rw [List.getD_eq_getElem?_getD,h1] at e1
  match j,e1,e2 with
  | 0,e1,e2=>cases e1;cases e2;exact h2
  | j+1,e1,e2=>cases e1
 have ok1:∀ (i:Nat) (v u:Value),z1[i]?=some v→u=v→okAr own w0 (fun i=>[encs_i64 ((A.Follow++A.Starts).getD i [])]) (0+i) #[u]:=by
  intro i v u hv hu
  have hone':=sl_one hr1 hv
  have hi:i < A.Follow.length:=by have:=(List.getElem?_eq_some_iff.1 hv).1;omega
  rw [hz1,List.getElem?_map] at hv
  obtain ⟨f,hf,rfl⟩:∃ f,f1[i]?=some f∧f 0=v:=by
   cases hf:f1[i]? with
   | none=>rw [hf] at hv;cases hv
   | some f=>rw [hf] at hv;exact ⟨f,rfl,by simpa using hv⟩
  refine hok (0+i) _ u ⟨A.Follow[i],f,by rw [Nat.zero_add,List.getElem?_append_left hi];simp,rfl,hval _ f true hone' (hx1 i _ f (by simp) hf)⟩ hu
 have ok2:∀ (i:Nat) (v u:Value),z2[i]?=some v→u=v→okAr own w0 (fun i=>[encs_i64 ((A.Follow++A.Starts).getD i [])]) (A.Follow.length+i) #[u]:=by
  intro i v u hv hu
  have hone':=sl_one hr2 hv
  have hi:i < A.Starts.length:=by have:=(List.getElem?_eq_some_iff.1 hv).1;omega
  rw [hz2,List.getElem?_map] at hv
  obtain ⟨f,hf,rfl⟩:∃ f,f2[i]?=some f∧f 0=v:=by
   cases hf:f2[i]? with
   | none=>rw [hf] at hv;cases hv
   | some f=>rw [hf] at hv;exact ⟨f,rfl,by simpa using hv⟩
  refine hok _ _ u ⟨A.Starts[i],f,by rw [List.getElem?_append_right (by omega),Nat.add_sub_cancel_left];simp,rfl,hval _ f true hone' (hx2 i _ f (by simp) hf)⟩ hu
 refine callsIn_of_wp_marks Try.func78 (by rfl) (hF.fn _) ?_ hro
 have hpost:∀ (a:Act) (w:World),a.defers=[]→(J (A.Follow.length+A.Starts.length) w∨S w)→LeavesInM F n Try.prog Try.f78 a.tmps (fun e W'=>(∃ v,e=.returned v)∧(J (A.Follow.length+A.Starts.length) W'∨S W')) a.defers .returning w:=by
  intro a w hd hJ
  rw [hd]
  exact ⟨.tuple #[],by simp [results,Try.f78,go_sem],⟨_,rfl⟩,hJ⟩
 obtain ⟨tm,htm⟩:∃ tm:Array Value,tm=(#[yv]++#[lb])++Array.replicate (Try.f78.ntmps - (#[yv]++#[lb]).size) undef:=⟨_,rfl⟩
 have hnt:Try.f78.ntmps=31:=by rfl
 have hs0:tm.size=(cf [] 31).nt:=by rw [htm,show (cf [] 31).nt=31 from rfl];simp [hnt]
 have ht0:tm[0]?=some yv:=by rw [htm];exact (Array.getElem?_append_left (by simp)).trans rfl
 have ht1:tm[1]?=some lb:=by rw [htm];exact (Array.getElem?_append_left (by simp)).trans rfl
 show (Code.seq (.seq (sq1 (sq1 (bodyOf Try.f78))) (sq2 (sq1 (bodyOf Try.f78)))) (.seq (sq1 (sq2 (bodyOf Try.f78))) (sq2 (sq2 (bodyOf Try.f78))))).wpIn _ _ _ _ _ _
 rw [← htm]
 refine wpIn_seq (wpIn_seq ?_)
 refine yhead (P:=Try.prog) (pre:=(opsOf (sq1 (sq1 (bodyOf Try.f78)))).take 2) (rest:=(opsOf (sq1 (sq1 (bodyOf Try.f78)))).drop 2) (tl:=8) (tn:=9) (ti:=10) (vs:=z1) (s:=s1) (X:=.agg [.pv v0,.pv v1,.pv s1,.pv v3,.pv s2]) (own:=own) (w0:=w0) kk hF (by rfl) hyc (by decide)
  ⟨[],[(1,.f (.pv yv)),(4,.fp (.agg [.pv v0,.pv v1,.pv s1,.pv v3,.pv s2]) 0),(22,.fp (.agg [.pv v0,.pv v1,.pv s1,.pv v3,.pv s2]) 2),(25,.f (.pv s1))],by kernel_rfl,by rfl⟩
  ⟨[],[(25,.f (.sl (z1.map .pv))),(28,vi ((z1.map FV.pv).length:Int)),(31,vi 0)],by kernel_rfl,by rw [List.length_map];rfl,by rfl⟩ (by rfl) (by rfl) hlt0 hX hr1 (a:={ tmps:=tm,defers:=[] }) hs0 ht0 ht1 rfl hku ?_
 intro a1 w1 y0 y1 y2 y3 y4 y5 yd yg yk
 show (sq2 (sq1 (bodyOf Try.f78))).wpIn _ _ _ _ _ _
 refine yloop (P:=Try.prog) (t1:=1) (tl:=8) (tn:=9) (ti:=10) (tc:=11) (te:=4) (ty:=14) (tx:=15) (to_:=16) (tq:=17) (yv:=yv) (s:=s1) (vs:=z1) (own:=own) (w0:=w0) (lp:=lp) (J:=J) (S:=S) (ok:=okAr own w0 (fun i=>[encs_i64 ((A.Follow++A.Starts).getD i [])])) (M:=A.Follow.length+A.Starts.length) (k0:=0)
  kk hF (by decide) (by rfl) hyc (by omega) (by rfl) (by rfl) (by rfl) (by rfl) (pre:=(opsOf (sq1 (sq2 (sq1 (sq1 (sq2 (sq2 (sq1 (sq1 (sq2 (sq1 (bodyOf Try.f78)))))))))))).take 2) (by rfl) (by rfl) (by rfl) (by rfl) (by decide)
  (fun i=>⟨[],[(1,.f (.pv yv)),(25,.f (.sl (z1.map .pv))),(28,vi z1.length),(31,vi i),(34,vB (decide ((i:Int) < (z1.length:Int))))],by kernel_rfl,by rfl⟩)
  (fun i v=>⟨[],[(1,.f (.pv yv)),(13,.f (.pv v)),(25,.f (.sl (z1.map .pv))),(28,vi z1.length),(31,vi i),(37,.fp (.pv v) 0),(40,.f (.pv v))],by kernel_rfl,by rfl⟩)
  (fun v=>⟨[],[(1,.f (.pv yv)),(13,.f (.pv v)),(43,.f (.pv yv)),(46,.f (.pv v))],by kernel_rfl,by rfl,by rfl⟩)
  (fun b=>⟨[],[(49,vB b),(52,vB (!b))],by kernel_rfl,by rfl⟩)
  (fun i=>⟨[],[(1,.f (.pv yv)),(25,.f (.sl (z1.map .pv))),(28,vi z1.length),(31,vi (w64 ((i:Int)+1))),(55,vi (w64 ((i:Int)+1)))],by kernel_rfl,by rfl⟩)
  (by decide) hlt0 hyv hst hss hyield (by omega) ok1 hr1 y0 y1 y3 y4 y5 yd (hst _ _ _ hJ yg) yk ?_ (fun a' W' h1 h2=>hpost a' W' h1 (.inr h2))
 intro a2 w2 x0 x1 x2 xd xJ xk
 show (Code.seq _ _).wpIn _ _ _ _ _ _
 refine wpIn_seq ?_
 refine yhead (P:=Try.prog) (pre:=(opsOf (sq1 (sq2 (bodyOf Try.f78)))).take 2) (rest:=(opsOf (sq1 (sq2 (bodyOf Try.f78)))).drop 2) (tl:=20) (tn:=21) (ti:=22) (vs:=z2) (s:=s2) (X:=.agg [.pv v0,.pv v1,.pv s1,.pv v3,.pv s2]) (own:=own) (w0:=w0) kk hF (by rfl) hyc (by decide)
  ⟨[],[(1,.f (.pv yv)),(4,.fp (.agg [.pv v0,.pv v1,.pv s1,.pv v3,.pv s2]) 0),(58,.fp (.agg [.pv v0,.pv v1,.pv s1,.pv v3,.pv s2]) 4),(61,.f (.pv s2))],by kernel_rfl,by rfl⟩
  ⟨[],[(61,.f (.sl (z2.map .pv))),(64,vi ((z2.map FV.pv).length:Int)),(67,vi 0)],by kernel_rfl,by rw [List.length_map];rfl,by rfl⟩ (by rfl) (by rfl) hlt0 hX hr2 x0 x1 (x2.trans y2) xd xk ?_
 intro a3 w3 u0 u1 u2 u3 u4 u5 ud ug uk
 show (sq2 (sq2 (bodyOf Try.f78))).wpIn _ _ _ _ _ _
 refine yloop (P:=Try.prog) (t1:=1) (tl:=20) (tn:=21) (ti:=22) (tc:=23) (te:=6) (ty:=26) (tx:=27) (to_:=28) (tq:=29) (yv:=yv) (s:=s2) (vs:=z2) (own:=own) (w0:=w0) (lp:=lp) (J:=J) (S:=S) (ok:=okAr own w0 (fun i=>[encs_i64 ((A.Follow++A.Starts).getD i [])])) (M:=A.Follow.length+A.Starts.length) (k0:=A.Follow.length)
  kk hF (by decide) (by rfl) hyc (by omega) (by rfl) (by rfl) (by rfl) (by rfl) (pre:=(opsOf (sq1 (sq2 (sq1 (sq1 (sq2 (sq2 (sq1 (sq1 (sq2 (sq2 (bodyOf Try.f78)))))))))))).take 2) (by rfl) (by rfl) (by rfl) (by rfl) (by decide)
  (fun i=>⟨[],[(1,.f (.pv yv)),(61,.f (.sl (z2.map .pv))),(64,vi z2.length),(67,vi i),(70,vB (decide ((i:Int) < (z2.length:Int))))],by kernel_rfl,by rfl⟩)
  (fun i v=>⟨[],[(1,.f (.pv yv)),(19,.f (.pv v)),(61,.f (.sl (z2.map .pv))),(64,vi z2.length),(67,vi i),(73,.fp (.pv v) 0),(76,.f (.pv v))],by kernel_rfl,by rfl⟩)
  (fun v=>⟨[],[(1,.f (.pv yv)),(19,.f (.pv v)),(79,.f (.pv yv)),(82,.f (.pv v))],by kernel_rfl,by rfl,by rfl⟩)
  (fun b=>⟨[],[(85,vB b),(88,vB (!b))],by kernel_rfl,by rfl⟩)
  (fun i=>⟨[],[(1,.f (.pv yv)),(61,.f (.sl (z2.map .pv))),(64,vi z2.length),(67,vi (w64 ((i:Int)+1))),(91,vi (w64 ((i:Int)+1)))],by kernel_rfl,by rfl⟩)
  (by decide) hlt0 hyv hst hss hyield (by omega) ok2 hr2 u0 u1 u3 u4 u5 ud (hst _ _ _ (by rw [Nat.zero_add,hn1] at xJ;exact xJ) ug) uk ?_ (fun a' W' h1 h2=>hpost a' W' h1 (.inr h2))
 intro a4 w4 _ _ _ xd4 xJ4 _
 exact hpost a4 w4 xd4 (.inl (by rw [hn2] at xJ4;exact xJ4))
theorem auto_lists_ok (A:api_Auto):CallE Try.prog 47 [.agg [.f (fL enc_arr4_uint64 A.Sets),.f (fL enc_i64 A.Owner),.f (fL encs_i64 A.Follow),.f (fL enc_bool A.Ends),.f (fL encs_i64 A.Starts)]] [] (.clo 78 [.fp (enc_api_Auto A) 0]) []:=by
 refine callE_semW (x:=bodyOf Try.f47) (cfOk [] 4) Try.func47 (by rfl) (by rfl) (by rfl) (Nat.le_of_ble_eq_true rfl) (by rfl) (by rfl) (Nat.le_of_ble_eq_true rfl) ?_
 refine wkS [1] [(1,.agg [.f (fL enc_arr4_uint64 A.Sets),.f (fL enc_i64 A.Owner),.f (fL encs_i64 A.Follow),.f (fL enc_bool A.Ends),.f (fL encs_i64 A.Starts)])] (by kernel_rfl) ?_
 refine sR (cfOk [] 4) [] [4,8] [(4,.ptr 8 0),(8,.agg [.f (fL enc_arr4_uint64 A.Sets),.f (fL enc_i64 A.Owner),.f (fL encs_i64 A.Follow),.f (fL enc_bool A.Ends),.f (fL encs_i64 A.Starts)])] (obs:=[]) (by kernel_rfl) (by kernel_rfl) obN ?_
 refine sR (cfOk [] 4) [] [7,8] [(7,.clo 78 [.ptr 8 0]),(8,.agg [.f (fL enc_arr4_uint64 A.Sets),.f (fL enc_i64 A.Owner),.f (fL encs_i64 A.Follow),.f (fL enc_bool A.Ends),.f (fL encs_i64 A.Starts)])] (obs:=[]) (by kernel_rfl) (by kernel_rfl) obN ?_
 refine Sem.ret' (by kernel_rfl) Wk.refl ?_
 refine ⟨_,Wk.fpz (b:=8) (x:=enc_api_Auto A) (by rfl) (by rfl) (by rfl),?_⟩
 exact (evEnd_endK (x:=.clo 78 [.fp (enc_api_Auto A) 0]) (l:=[]) (by kernel_rfl) ⟨rfl,rfl⟩).1
def C_auto_lists (A:api_Auto):Prop:=CallE Try.prog 47 [.agg [.f (fL enc_arr4_uint64 A.Sets),.f (fL enc_i64 A.Owner),.f (fL encs_i64 A.Follow),.f (fL enc_bool A.Ends),.f (fL encs_i64 A.Starts)]] [] (.clo 78 [.fp (enc_api_Auto A) 0]) []
theorem lists_it2 (A:api_Auto) (h:A.Follow.length < 1099511627776∧A.Starts.length < 1099511627776):ItOk Try.prog 78 (.fp (enc_api_Auto A) 0) (A.Follow.length+A.Starts.length) (fun i=>[encs_i64 ((A.Follow++A.Starts).getD i [])]):=
 lists_it A (by omega) (by omega)
end Go.Ev
set_option linter.unusedSimpArgs false
set_option linter.unusedVariables false
namespace Go.Ev
open Go Go.Proofs
set_option maxRecDepth 8000
def C_hecklelaw10_awake (r0:Bool):Prop:=CallE Try.prog 20 [] [] (vB r0) []
def C_auto_Right_L1 (a0:Int) (r0:Bool):Prop:=CallE Try.prog 44 [vi a0] [] (vB r0) []
def C_slices_Index__api_Set_api_Set (a0:(List arr4_uint64)) (a1:arr4_uint64) (r0:Int):Prop:=CallE Try.prog 77 [vL enc_arr4_uint64 a0,av_arr4_uint64 a1] [] (vi r0) []
def C_slices_Contains__api_Set_api_Set (a0:(List arr4_uint64)) (a1:arr4_uint64) (r0:Bool):Prop:=CallE Try.prog 46 [vL enc_arr4_uint64 a0,av_arr4_uint64 a1] [] (vB r0) []
def C_auto_places (a0:(List Int)) (a1:Int) (r0:Bool):Prop:=CallE Try.prog 48 [vL enc_i64 a0,vi a1] [] (vB r0) []
def C_slices_IndexFunc__int_int_at_auto_Right_L1 (a0:(List Int)) (r0:Int):Prop:=CallE Try.prog 76 [vL enc_i64 a0,.clo 44 []] [] (vi r0) []
def C_slices_ContainsFunc__int_int_at_auto_Right_L1 (a0:(List Int)) (r0:Bool):Prop:=CallE Try.prog 45 [vL enc_i64 a0,.clo 44 []] [] (vB r0) []
def C_auto_Right (a0:api_Auto) (r0:Bool):Prop:=CallE Try.prog 21 [av_api_Auto a0] [] (vB r0) []
def C_heckleref10_Right (a0:api_Auto) (r0:Bool):Prop:=CallE Try.prog 22 [av_api_Auto a0] [] (vB r0) []
def C_set_Has (a0:arr4_uint64) (a1:Int) (r0:Bool):Prop:=CallE Try.prog 62 [av_arr4_uint64 a0,vi a1] [] (vB r0) []
def C_slices_Concat__int_int (a0:(List (List Int))) (r0:(List Int)):Prop:=CallE Try.prog 79 [vL encs_i64 a0] [] (oL 3 enc_i64 r0) []
def C_place_Join_int (a0:(List Int)) (a1:(List Int)) (r0:(List Int)):Prop:=CallE Try.prog 64 [vL enc_i64 a0,vL enc_i64 a1] [] (vL enc_i64 r0) []
def C_auto_Read (a0:api_Auto) (a1:(List Int)) (a2:Int) (r0:(List Int)) (r1:Int):Prop:=CallE Try.prog 50 [av_api_Auto a0,vL enc_i64 a1,vi a2] [] (.tup [vL enc_i64 r0,vi r1]) []
def C_auto_Run_L1 (a0:Int) (o0:api_Auto) (r0:Bool) (o0':api_Auto):Prop:=CallE Try.prog 49 [vi a0,.ptr 3 0] [av_api_Auto o0] (vB r0) [av_api_Auto o0']
def C_slices_IndexFunc__int_int_at_auto_Run_L1 (a0:(List Int)) (o0:api_Auto) (r0:Int) (o0':api_Auto):Prop:=CallE Try.prog 76 [vL enc_i64 a0,.clo 49 [.ptr 3 0]] [av_api_Auto o0] (vi r0) [av_api_Auto o0']
def C_slices_ContainsFunc__int_int_at_auto_Run_L1 (a0:(List Int)) (o0:api_Auto) (r0:Bool) (o0':api_Auto):Prop:=CallE Try.prog 45 [vL enc_i64 a0,.clo 49 [.ptr 3 0]] [av_api_Auto o0] (vB r0) [av_api_Auto o0']
def C_auto_Run (a0:api_Auto) (a1:(List Int)) (a2:ByteArray) (r0:Int) (r1:Int):Prop:=CallE Try.prog 23 [av_api_Auto a0,vL enc_i64 a1,vS a2] [] (.tup [vi r0,vi r1]) []
def C_heckleref01_Has (a0:arr4_uint64) (a1:Int) (r0:Bool):Prop:=CallE Try.prog 51 [av_arr4_uint64 a0,vi a1] [] (vB r0) []
def C_heckleref09_Add (a0:(List Int)) (a1:(List Int)) (r0:(List Int)):Prop:=CallE Try.prog 52 [vL enc_i64 a0,vL enc_i64 a1] [] (vL enc_i64 r0) []
def C_heckleref10_Run (a0:api_Auto) (a1:(List Int)) (a2:ByteArray) (r0:Int) (r1:Int):Prop:=CallE Try.prog 24 [av_api_Auto a0,vL enc_i64 a1,vS a2] [] (.tup [vi r0,vi r1]) []
def C_hecklelaw10_AutoRight (a0:api_Auto) (a1:ByteArray) (r0:Bool):Prop:=CallE Try.prog 6 [av_api_Auto a0,vS a1] [] (vB r0) []
end Go.Ev
set_option linter.unusedSimpArgs false
set_option linter.unusedVariables false
namespace Go.Ev
open Go Go.Proofs
set_option maxRecDepth 8000
set_option maxHeartbeats 1000000 in
theorem W_auto_Right_L1 (i:Int) (res:Bool)
 (h:(res=(decide (i < (0:Int)) || decide (i≥(40:Int))))):C_auto_Right_L1 i res:=by
 unfold C_auto_Right_L1
 have kk:=cfOk [] 9
 refine fD (x:=bodyOf Try.f44) kk Try.func44 ?_
 refine wkS [1] [(1,vi i)] (by kernel_rfl) ?_
 refine sD kk [] [] [] obN ?_
 refine sM [1] [(7,vB (decide (i < (0:Int)) || decide (i≥(40:Int))))] ?_ (fun hk0=>?_)
 ·refine tD ?_
  obtain he0:=h
  subst res
  exact (endD [] (vB (decide (i < (0:Int)) || decide (i≥(40:Int)))) []).1
 ·rcases Bool.eq_false_or_eq_true (decide (i < (0:Int))) with hb0 | hb0
  ·refine sD kk [bF,bF,bT] [1] [(7,vB true)] (obC (gff hb0) (obC (gff hb0) (obC hb0 obN))) ?_
   exact Sem.cast (by try rw [hb0];kernel_rfl) hk0
  ·refine sD kk [bT,bT,bF] [1] [(7,vB (decide (i≥(40:Int))))] (obC (gft hb0) (obC (gft hb0) (obC hb0 obN))) ?_
   exact Sem.cast (by try rw [hb0];kernel_rfl) hk0
set_option maxHeartbeats 1000000 in
theorem W_slices_Index__api_Set_api_Set (s0:(List arr4_uint64)) (v:arr4_uint64) (res:Int)
 (h:(∃ (Inv7:Int→Prop) (mu8:Int→Nat),Inv7 0∧(∀ (t8:Int),Inv7 t8→(((decide (t8 < (↑(List.length s0):Int)))=true→((0:Int)≤t8)∧t8 < ↑(List.length s0)∧(((arr4_uint64.e0 v == arr4_uint64.e0 (gd s0 t8) && (arr4_uint64.e1 v == arr4_uint64.e1 (gd s0 t8) && (arr4_uint64.e2 v == arr4_uint64.e2 (gd s0 t8) && (arr4_uint64.e3 v == arr4_uint64.e3 (gd s0 t8) && true))))=true→(res=t8))∧((arr4_uint64.e0 v == arr4_uint64.e0 (gd s0 t8) && (arr4_uint64.e1 v == arr4_uint64.e1 (gd s0 t8) && (arr4_uint64.e2 v == arr4_uint64.e2 (gd s0 t8) && (arr4_uint64.e3 v == arr4_uint64.e3 (gd s0 t8) && true))))=false→(Inv7 (w64 (t8+1))∧mu8 (w64 (t8+1)) < mu8 t8))))∧((decide (t8 < (↑(List.length s0):Int)))=false→(res=(-1))))))):C_slices_Index__api_Set_api_Set s0 v res:=by
 unfold C_slices_Index__api_Set_api_Set
 have kk:=cfOk [17] 19
 refine fD (x:=bodyOf Try.f77) kk Try.func77 ?_
 refine wkS [1,4] [(1,vL enc_arr4_uint64 s0),(4,av_arr4_uint64 v)] (by kernel_rfl) ?_
 refine sD kk [] [4] [(10,.ptr 20 0),(20,av_arr4_uint64 v)] obN ?_
 refine qD ?_
 refine sDE kk [] [] [(22,vi ((↑(List.length (List.map enc_arr4_uint64 s0)):Int))),(25,vi 0)] [(22,vi ((↑(List.length s0):Int))),(25,vi 0)] obN ?_
 refine bD (id:=0) ?_
 obtain ⟨Inv7,mu8,h0Inv7,hInv7⟩:=h
 refine loD (fun (q:Int)=>(fun (t8:Int)=>([(1,vL enc_arr4_uint64 s0),(10,.ptr 20 0),(20,av_arr4_uint64 v),(22,vi ((↑(List.length s0):Int))),(25,vi t8)]:Sta)) q) (fun (q:Int)=>Inv7 q) (fun (q:Int)=>mu8 q) 0 [] h0Inv7 ?_
 rintro t8 hi
 have h:=hInv7 t8 hi
 refine sD kk [] [] [(28,vB (decide (t8 < (↑(List.length s0):Int))))] obN ?_
 refine qD ?_
 refine cD (t:=9) (b:=decide (t8 < (↑(List.length s0):Int))) (fun hb9=>?_) (fun hb9=>?_)
 ·have h:=h.1 hb9
  refine Sem.skip' (by kernel_rfl) Wk.refl ?_
  show Sem _ _ _ _ _
  refine wkD [28] ?_
  refine qD ?_
  refine bD (id:=1) ?_
  refine sD kk [] [] [(16,vi t8)] obN ?_
  obtain ⟨h10,h⟩:=h
  obtain ⟨h11,h⟩:=h
  refine sD kk [.e (fv_arr4_uint64 (gd s0 t8))] [] [(49,vB (arr4_uint64.e0 v == arr4_uint64.e0 (gd s0 t8) && (arr4_uint64.e1 v == arr4_uint64.e1 (gd s0 t8) && (arr4_uint64.e2 v == arr4_uint64.e2 (gd s0 t8) && (arr4_uint64.e3 v == arr4_uint64.e3 (gd s0 t8) && true)))))] (obC h10 (obC (idx_ok enc_arr4_uint64 s0 t8 _ (enc_arr4_uint64_eq _) h10 h11) obN)) ?_
  refine cD (t:=16) (b:=arr4_uint64.e0 v == arr4_uint64.e0 (gd s0 t8) && (arr4_uint64.e1 v == arr4_uint64.e1 (gd s0 t8) && (arr4_uint64.e2 v == arr4_uint64.e2 (gd s0 t8) && (arr4_uint64.e3 v == arr4_uint64.e3 (gd s0 t8) && true)))) (fun hb12=>?_) (fun hb12=>?_)
  ·have h:=h.1 hb12
   refine sD kk [] [1,10,16,20,22,25,49] [(13,vi t8)] obN ?_
   refine tD ?_
   obtain he0:=h
   subst res
   exact (endD [] (vi t8) []).1
  ·have h:=h.2 hb12
   refine Sem.skip' (by kernel_rfl) Wk.refl ?_
   show Sem _ _ _ _ _
   refine wkD [16,49] ?_
   refine rD kk [] [] [(25,vi (w64 (t8+1)))] obN ?_
   exact lD (w64 (t8+1)) [] h
 ·have h:=h.2 hb9
  refine xD (i:=0) ?_
  show Sem _ _ _ _ _
  refine wkD [1,10,20,22,25,28] ?_
  refine sD kk [] [] [(13,vi (-1))] obN ?_
  refine tD ?_
  obtain he0:=h
  subst res
  exact (endD [] (vi (-1)) []).1
set_option maxHeartbeats 1000000 in
theorem W_slices_Contains__api_Set_api_Set (s0:(List arr4_uint64)) (v:arr4_uint64) (res:Bool)
 (h:(∃ r0:Int,C_slices_Index__api_Set_api_Set s0 v r0∧(res=(decide (r0≥(0:Int)))))):C_slices_Contains__api_Set_api_Set s0 v res:=by
 unfold C_slices_Contains__api_Set_api_Set
 have kk:=cfOk [] 9
 refine fD (x:=bodyOf Try.f46) kk Try.func46 ?_
 refine wkS [1,4] [(1,vL enc_arr4_uint64 s0),(4,av_arr4_uint64 v)] (by kernel_rfl) ?_
 refine sD kk [] [4] [(10,.ptr 20 0),(20,av_arr4_uint64 v)] obN ?_
 obtain ⟨r0,hc0,h⟩:=h
 refine sD kk [.c (vi r0) []] [1,10,20] [(13,vB (decide (r0≥(0:Int))))] (obC hc0 obN) ?_
 refine tD ?_
 obtain he0:=h
 subst res
 exact (endD [] (vB (decide (r0≥(0:Int)))) []).1
set_option maxHeartbeats 1000000 in
theorem W_auto_places (l:(List Int)) (many:Int) (res:Bool)
 (h:(∃ (Inv9:Int→Int→Prop) (mu10:Int→Int→Nat),Inv9 (-1) 0∧(∀ (last:Int) (t10:Int),Inv9 last t10→(((decide (t10 < (↑(List.length l):Int)))=true→((0:Int)≤t10)∧t10 < ↑(List.length l)∧(((decide (gd l t10≤last) || decide (gd l t10≥many))=true→(res=false))∧((decide (gd l t10≤last) || decide (gd l t10≥many))=false→(Inv9 (gd l t10) (w64 (t10+1))∧mu10 (gd l t10) (w64 (t10+1)) < mu10 last t10))))∧((decide (t10 < (↑(List.length l):Int)))=false→(res=true)))))):C_auto_places l many res:=by
 unfold C_auto_places
 have kk:=cfOk [] 24
 refine fD (x:=bodyOf Try.f48) kk Try.func48 ?_
 refine wkS [1,4] [(1,vL enc_i64 l),(4,vi many)] (by kernel_rfl) ?_
 refine sD kk [] [] [] obN ?_
 refine sD kk [] [] [(16,vi (-1))] obN ?_
 refine qD ?_
 refine sDE kk [] [1] [(25,vL enc_i64 l),(28,vi ((↑(List.length (List.map enc_i64 l)):Int))),(31,vi 0)] [(25,vL enc_i64 l),(28,vi ((↑(List.length l):Int))),(31,vi 0)] obN ?_
 refine bD (id:=0) ?_
 obtain ⟨Inv9,mu10,h0Inv9,hInv9⟩:=h
 refine loD (fun (q:Int×Int)=>(fun (last:Int) (t10:Int)=>([(4,vi many),(16,vi last),(25,vL enc_i64 l),(28,vi ((↑(List.length l):Int))),(31,vi t10)]:Sta)) q.1 q.2) (fun (q:Int×Int)=>Inv9 q.1 q.2) (fun (q:Int×Int)=>mu10 q.1 q.2) ((-1),0) [] h0Inv9 ?_
 rintro ⟨last,t10⟩ hi
 have h:=hInv9 last t10 hi
 refine sD kk [] [] [(34,vB (decide (t10 < (↑(List.length l):Int))))] obN ?_
 refine qD ?_
 refine cD (t:=11) (b:=decide (t10 < (↑(List.length l):Int))) (fun hb11=>?_) (fun hb11=>?_)
 ·have h:=h.1 hb11
  refine Sem.skip' (by kernel_rfl) Wk.refl ?_
  show Sem _ _ _ _ _
  refine wkD [34] ?_
  refine qD ?_
  refine bD (id:=1) ?_
  obtain ⟨h12,h⟩:=h
  obtain ⟨h13,h⟩:=h
  refine sD kk [.e (fi (gd l t10))] [] [(22,vi (gd l t10))] (obC h12 (obC (idx_ok enc_i64 l t10 _ rfl h12 h13) obN)) ?_
  refine qD ?_
  refine sM [16] [(64,vB (decide (gd l t10≤last) || decide (gd l t10≥many)))] ?_ (fun hk0=>?_)
  ·refine cD (t:=21) (b:=decide (gd l t10≤last) || decide (gd l t10≥many)) (fun hb15=>?_) (fun hb15=>?_)
   ·have h:=h.1 hb15
    refine sD kk [] [4,22,25,28,31,64] [(13,vB false)] obN ?_
    refine tD ?_
    obtain he0:=h
    subst res
    exact (endD [] (vB false) []).1
   ·have h:=h.2 hb15
    refine Sem.skip' (by kernel_rfl) Wk.refl ?_
    show Sem _ _ _ _ _
    refine wkD [64] ?_
    refine rD kk [] [22] [(16,vi (gd l t10))] obN ?_
    show Sem _ _ _ _ _
    refine rD kk [] [] [(31,vi (w64 (t10+1)))] obN ?_
    exact lD ((gd l t10),(w64 (t10+1))) [] h
  ·rcases Bool.eq_false_or_eq_true (decide (gd l t10≤last)) with hb14 | hb14
   ·refine sD kk [bF,bF,bF,bT] [16] [(64,vB true)] (obC (gff hb14) (obC (gff hb14) (obC (gff hb14) (obC hb14 obN)))) ?_
    exact Sem.cast (by try rw [hb14];kernel_rfl) hk0
   ·refine sD kk [bT,bT,bT,bF] [16] [(64,vB (decide (gd l t10≥many)))] (obC (gft hb14) (obC (gft hb14) (obC (gft hb14) (obC hb14 obN)))) ?_
    exact Sem.cast (by try rw [hb14];kernel_rfl) hk0
 ·have h:=h.2 hb11
  refine xD (i:=0) ?_
  show Sem _ _ _ _ _
  refine wkD [4,16,25,28,31,34] ?_
  refine sD kk [] [] [(13,vB true)] obN ?_
  refine tD ?_
  obtain he0:=h
  subst res
  exact (endD [] (vB true) []).1
set_option maxHeartbeats 1000000 in
theorem W_slices_IndexFunc__int_int_at_auto_Right_L1 (s0:(List Int)) (res:Int)
 (h:(∃ (Inv9:Int→Prop) (mu10:Int→Nat),Inv9 0∧(∀ (t8:Int),Inv9 t8→(((decide (t8 < (↑(List.length s0):Int)))=true→((0:Int)≤t8)∧t8 < ↑(List.length s0)∧(∃ r0_2:Bool,C_auto_Right_L1 (gd s0 t8) r0_2∧(((r0_2)=true→(res=t8))∧((r0_2)=false→(Inv9 (w64 (t8+1))∧mu10 (w64 (t8+1)) < mu10 t8)))))∧((decide (t8 < (↑(List.length s0):Int)))=false→(res=(-1))))))):C_slices_IndexFunc__int_int_at_auto_Right_L1 s0 res:=by
 unfold C_slices_IndexFunc__int_int_at_auto_Right_L1
 have kk:=cfOk [17] 19
 refine fD (x:=bodyOf Try.f76) kk Try.func76 ?_
 refine wkS [1,4] [(1,vL enc_i64 s0),(4,.clo 44 [])] (by kernel_rfl) ?_
 refine sD kk [] [] [] obN ?_
 refine qD ?_
 refine sDE kk [] [] [(22,vi ((↑(List.length (List.map enc_i64 s0)):Int))),(25,vi 0)] [(22,vi ((↑(List.length s0):Int))),(25,vi 0)] obN ?_
 refine bD (id:=0) ?_
 obtain ⟨Inv9,mu10,h0Inv9,hInv9⟩:=h
 refine loD (fun (q:Int)=>(fun (t8:Int)=>([(1,vL enc_i64 s0),(4,.clo 44 []),(22,vi ((↑(List.length s0):Int))),(25,vi t8)]:Sta)) q) (fun (q:Int)=>Inv9 q) (fun (q:Int)=>mu10 q) 0 [] h0Inv9 ?_
 rintro t8 hi
 have h:=hInv9 t8 hi
 refine sD kk [] [] [(28,vB (decide (t8 < (↑(List.length s0):Int))))] obN ?_
 refine qD ?_
 refine cD (t:=9) (b:=decide (t8 < (↑(List.length s0):Int))) (fun hb11=>?_) (fun hb11=>?_)
 ·have h:=h.1 hb11
  refine Sem.skip' (by kernel_rfl) Wk.refl ?_
  show Sem _ _ _ _ _
  refine wkD [28] ?_
  refine qD ?_
  refine bD (id:=1) ?_
  refine sD kk [] [] [(16,vi t8)] obN ?_
  obtain ⟨h12,h⟩:=h
  obtain ⟨h13,h⟩:=h
  obtain ⟨r0_2,hc14,h⟩:=h
  refine sD kk [.e (fi (gd s0 t8)),.c (vB r0_2) []] [] [(49,vB r0_2)] (obC h12 (obC (idx_ok enc_i64 s0 t8 _ rfl h12 h13) (obC hc14 obN))) ?_
  refine cD (t:=16) (b:=r0_2) (fun hb15=>?_) (fun hb15=>?_)
  ·have h:=h.1 hb15
   refine sD kk [] [1,4,16,22,25,49] [(13,vi t8)] obN ?_
   refine tD ?_
   obtain he0:=h
   subst res
   exact (endD [] (vi t8) []).1
  ·have h:=h.2 hb15
   refine Sem.skip' (by kernel_rfl) Wk.refl ?_
   show Sem _ _ _ _ _
   refine wkD [16,49] ?_
   refine rD kk [] [] [(25,vi (w64 (t8+1)))] obN ?_
   exact lD (w64 (t8+1)) [] h
 ·have h:=h.2 hb11
  refine xD (i:=0) ?_
  show Sem _ _ _ _ _
  refine wkD [1,4,22,25,28] ?_
  refine sD kk [] [] [(13,vi (-1))] obN ?_
  refine tD ?_
  obtain he0:=h
  subst res
  exact (endD [] (vi (-1)) []).1
set_option maxHeartbeats 1000000 in
theorem W_slices_ContainsFunc__int_int_at_auto_Right_L1 (s0:(List Int)) (res:Bool)
 (h:(∃ r0:Int,C_slices_IndexFunc__int_int_at_auto_Right_L1 s0 r0∧(res=(decide (r0≥(0:Int)))))):C_slices_ContainsFunc__int_int_at_auto_Right_L1 s0 res:=by
 unfold C_slices_ContainsFunc__int_int_at_auto_Right_L1
 have kk:=cfOk [] 9
 refine fD (x:=bodyOf Try.f45) kk Try.func45 ?_
 refine wkS [1,4] [(1,vL enc_i64 s0),(4,.clo 44 [])] (by kernel_rfl) ?_
 refine sD kk [] [] [] obN ?_
 obtain ⟨r0,hc0,h⟩:=h
 refine sD kk [.c (vi r0) []] [1,4] [(13,vB (decide (r0≥(0:Int))))] (obC hc0 obN) ?_
 refine tD ?_
 obtain he0:=h
 subst res
 exact (endD [] (vB (decide (r0≥(0:Int)))) []).1
set_option maxHeartbeats 1000000 in
theorem W_auto_Right (a:api_Auto) (res:Bool)
 (h:(((decide ((↑(List.length (api_Auto.Sets a)):Int) > (600:Int)) || ((↑(List.length (List.map enc_i64 (api_Auto.Owner a))):Int) != (↑(List.length (api_Auto.Sets a)):Int) || ((↑(List.length (List.map encs_i64 (api_Auto.Follow a))):Int) != (↑(List.length (api_Auto.Sets a)):Int) || ((↑(List.length (List.map enc_bool (api_Auto.Ends a))):Int) != (↑(List.length (api_Auto.Sets a)):Int) || decide ((↑(List.length (api_Auto.Starts a)):Int) > (16:Int))))))=true→(res=false))∧((decide ((↑(List.length (api_Auto.Sets a)):Int) > (600:Int)) || ((↑(List.length (List.map enc_i64 (api_Auto.Owner a))):Int) != (↑(List.length (api_Auto.Sets a)):Int) || ((↑(List.length (List.map encs_i64 (api_Auto.Follow a))):Int) != (↑(List.length (api_Auto.Sets a)):Int) || ((↑(List.length (List.map enc_bool (api_Auto.Ends a))):Int) != (↑(List.length (api_Auto.Sets a)):Int) || decide ((↑(List.length (api_Auto.Starts a)):Int) > (16:Int))))))=false→(∃ r0:Bool,C_slices_ContainsFunc__int_int_at_auto_Right_L1 (api_Auto.Owner a) r0∧(((r0)=true→(res=false))∧((r0)=false→(∃ r0_1:Bool,C_slices_Contains__api_Set_api_Set (api_Auto.Sets a) ({ e0:=(0:Int),e1:=(0:Int),e2:=(0:Int),e3:=(0:Int) }) r0_1∧(((r0_1)=true→(res=false))∧((r0_1)=false→(C_auto_lists a∧((List.length (api_Auto.Follow a) < 1099511627776∧List.length (api_Auto.Starts a) < 1099511627776)∧∃ (Inv12:Nat→Prop) (Stp14:Prop),Inv12 0∧(∀ (i:Nat) (y:(List Int)),i < (List.length (api_Auto.Follow a)+List.length (api_Auto.Starts a))→y=List.getD (api_Auto.Follow a++api_Auto.Starts a) i []→Inv12 i→(∃ r0_3:Bool,C_auto_places y ((↑(List.length (api_Auto.Sets a)):Int)) r0_3∧(((!r0_3)=true→Stp14)∧((!r0_3)=false→Inv12 (i+1)))))∧(Inv12 ((List.length (api_Auto.Follow a)+List.length (api_Auto.Starts a)))→(res=true))∧(Stp14→(res=false))))))))))))):C_auto_Right a res:=by
 unfold C_auto_Right
 have kk:=cfOk [] 55
 refine fD (x:=bodyOf Try.f21) kk Try.func21 ?_
 refine wkS [1] [(1,av_api_Auto a)] (by kernel_rfl) ?_
 refine sD kk [] [1] [(4,.ptr 8 0),(7,.ptr 14 0),(8,av_api_Auto a),(14,vB false)] obN ?_
 refine sDE kk [] [] [(10,.ptr 20 0),(20,vi ((↑(List.length (List.map enc_arr4_uint64 (api_Auto.Sets a))):Int)))] [(10,.ptr 20 0),(20,vi ((↑(List.length (api_Auto.Sets a)):Int)))] obN ?_
 refine sD kk [] [] [(13,.clo 44 [])] obN ?_
 refine qD ?_
 refine sM [] [(112,vB (decide ((↑(List.length (api_Auto.Sets a)):Int) > (600:Int)) || ((↑(List.length (List.map enc_i64 (api_Auto.Owner a))):Int) != (↑(List.length (api_Auto.Sets a)):Int) || ((↑(List.length (List.map encs_i64 (api_Auto.Follow a))):Int) != (↑(List.length (api_Auto.Sets a)):Int) || ((↑(List.length (List.map enc_bool (api_Auto.Ends a))):Int) != (↑(List.length (api_Auto.Sets a)):Int) || decide ((↑(List.length (api_Auto.Starts a)):Int) > (16:Int)))))))] ?_ (fun hk0=>?_)
 ·refine cD (t:=37) (b:=decide ((↑(List.length (api_Auto.Sets a)):Int) > (600:Int)) || ((↑(List.length (List.map enc_i64 (api_Auto.Owner a))):Int) != (↑(List.length (api_Auto.Sets a)):Int) || ((↑(List.length (List.map encs_i64 (api_Auto.Follow a))):Int) != (↑(List.length (api_Auto.Sets a)):Int) || ((↑(List.length (List.map enc_bool (api_Auto.Ends a))):Int) != (↑(List.length (api_Auto.Sets a)):Int) || decide ((↑(List.length (api_Auto.Starts a)):Int) > (16:Int)))))) (fun hb4=>?_) (fun hb4=>?_)
  ·have h:=h.1 hb4
   refine sD kk [] [4,8,10,13,20,112] [] obN ?_
   refine tD ?_
   obtain he0:=h
   subst res
   exact (endD [] (vB false) []).1
  ·have h:=h.2 hb4
   refine Sem.skip' (by kernel_rfl) Wk.refl ?_
   show Sem _ _ _ _ _
   refine wkD [112] ?_
   refine qD ?_
   obtain ⟨r0,hc5,h⟩:=h
   rcases Bool.eq_false_or_eq_true (r0) with hb6 | hb6
   ·have h:=h.1 hb6
    refine sD kk [.c (vB r0) [],bF,bF,bF,bF,bT] [13] [(142,vB true)] (obC hc5 (obC (gff hb6) (obC (gff hb6) (obC (gff hb6) (obC (gff hb6) (obC hb6 obN)))))) ?_
    refine cD (t:=47) (b:=true) (fun hb17=>?_) (fun hb17=>?_)
    ·refine sD kk [] [4,8,10,20,142] [] obN ?_
     refine tD ?_
     obtain he0:=h
     subst res
     exact (endD [] (vB false) []).1
    ·cases hb17
   ·have h:=h.2 hb6
    obtain ⟨r0_1,hc7,h⟩:=h
    refine sD kk [.c (vB r0) [],bT,bT,bT,bT,.c (vB r0_1) [],bF] [13] [(142,vB r0_1)] (obC hc5 (obC (gft hb6) (obC (gft hb6) (obC (gft hb6) (obC (gft hb6) (obC hc7 (obC hb6 obN))))))) ?_
    refine cD (t:=47) (b:=r0_1) (fun hb8=>?_) (fun hb8=>?_)
    ·have h:=h.1 hb8
     refine sD kk [] [4,8,10,20,142] [] obN ?_
     refine tD ?_
     obtain he0:=h
     subst res
     exact (endD [] (vB false) []).1
    ·have h:=h.2 hb8
     refine Sem.skip' (by kernel_rfl) Wk.refl ?_
     show Sem _ _ _ _ _
     refine wkD [142] ?_
     refine qD ?_
     obtain ⟨hc9,h⟩:=h
     refine sD kk [.c (.clo 78 [.fp (fv_api_Auto a) 0]) []] [4,8] [(148,.clo 78 [.fp (fv_api_Auto a) 0])] (obC hc9 obN) ?_
     refine bD (id:=0) ?_
     obtain ⟨hl13,Inv12,Stp14,h0Inv12,hRInv12,hDInv12,hSInv12⟩:=h
     refine Sem.rangeG (σ:=Unit) (c:=(cf [] 55)) (by rfl) (tg:=49) (ps:=[50]) (by kernel_rfl) (by kernel_rfl) (lists_it2 a hl13) (fun i _=>⟨rfl,fun y hy=>⟨1,by rw [List.mem_singleton.1 hy];rfl⟩⟩) [(7,.ptr 14 0),(10,.ptr 20 0)] [14,20] (fun (_:Unit)=>([vB false,vi ((↑(List.length (api_Auto.Sets a)):Int))]:List AV)) (fun (i:Nat) (q:Unit)=>Inv12 i ) (fun (q:Unit)=>Stp14 ) () ((wkE (G':=[(7,.ptr 14 0),(10,.ptr 20 0),(14,vB false),(20,vi ((↑(List.length (api_Auto.Sets a)):Int)))]) [] [7,10,14,20] (by kernel_rfl)).trans (Wk.pick [7,10,14,20] (by kernel_rfl))) h0Inv12 (by rfl) (fun q=>by rfl) (by rfl) (by decide) (fun q q'=>by rfl) (by decide) (by decide) ?_ ?_ ?_
     ·rintro i _ hi hinv
      obtain ⟨y,hy⟩:∃ y:(List Int),y=List.getD (api_Auto.Follow a++api_Auto.Starts a) i []:=⟨_,rfl⟩
      have h:=hRInv12 i y hi hy hinv
      refine Sem.weak (Wk.pick [3,6,7,10,151] (G':=[(3,vB false),(6,vi ((↑(List.length (api_Auto.Sets a)):Int))),(7,.ptr 3 0),(10,.ptr 6 0),(151,vL enc_i64 y)]) (by rw [hy];kernel_rfl)) ?_
      show Sem _ (cfr [] 55) (sq1 (sq1 (sq2 (sq1 (sq2 (sq2 (sq2 (sq2 (sq2 (bodyOf Try.f21)))))))))) _ _
      have kr:=cfrOk [] 55
      refine rD kr [] [151] [(16,vL enc_i64 y)] obN ?_
      refine ⟨rfl,?_⟩
      show Sem _ (cfr [] 55) (sq2 (sq1 (sq2 (sq1 (sq2 (sq2 (sq2 (sq2 (sq2 (bodyOf Try.f21)))))))))) _ _
      refine bD (id:=1) ?_
      obtain ⟨r0_3,hc15,h⟩:=h
      refine sD kr [.c (vB r0_3) []] [10,16] [(163,vB (!r0_3))] (obC hc15 obN) ?_
      refine cD (t:=54) (b:=!r0_3) (fun hb16=>?_) (fun hb16=>?_)
      ·have h:=h.1 hb16
       refine sD kr [] [163] [] obN ?_
       refine tD ?_
       exact rndSr (wkE [] [3,6] (by rfl)) (by kernel_rfl) ⟨(),rfl,h⟩
      ·have h:=h.2 hb16
       refine Sem.skip' (by kernel_rfl) Wk.refl ?_
       exact rndSn (wkE [] [3,6] (by rfl)) (by kernel_rfl) ⟨(),rfl,h⟩
     ·rintro _ hinv
      have h:=hDInv12 hinv
      refine ⟨[(7,.ptr 14 0),(14,vB false)],Wk.pick [7,14] (by kernel_rfl),?_⟩
      show Sem _ _ _ _ _
      refine sD kk [] [] [(14,vB true)] obN ?_
      refine tD ?_
      obtain he0:=h
      subst res
      exact (endD [] (vB true) []).1
     ·rintro _ hinv
      have h:=hSInv12 hinv
      refine ⟨[(7,.ptr 14 0),(14,vB false)],Wk.pick [7,14] (by kernel_rfl),?_⟩
      obtain he0:=h
      subst res
      exact (endD [] (vB false) []).1
 ·rcases Bool.eq_false_or_eq_true (decide ((↑(List.length (api_Auto.Sets a)):Int) > (600:Int))) with hb0 | hb0
  ·refine sD kk [bF,bF,bF,bF,bF,bT,bF,bF,bF,bF,bF,bT,bF,bF,bF,bF,bF,bT,bF,bF,bF,bF,bT] [] [(112,vB true)] (obC (gff hb0) (obC (gff hb0) (obC (gff hb0) (obC (gff hb0) (obC (gff hb0) (obC hb0 (oF (oF (oF (oF (oF (oT (oF (oF (oF (oF (oF (oT (oF (oF (oF (oF (oT obN))))))))))))))))))))))) ?_
   exact Sem.cast (by try rw [hb0];kernel_rfl) hk0
  ·rcases Bool.eq_false_or_eq_true ((↑(List.length (List.map enc_i64 (api_Auto.Owner a))):Int) != (↑(List.length (api_Auto.Sets a)):Int)) with hb1 | hb1
   ·refine sD kk [bT,bT,bT,bT,bT,bF,bF,bF,bF,bF,bF,bT,bF,bF,bF,bF,bF,bT,bF,bF,bF,bF,bT] [] [(112,vB true)] (obC (gft hb0) (obC (gft hb0) (obC (gft hb0) (obC (gft hb0) (obC (gft hb0) (obC hb0 (obC (gff hb1) (obC (gff hb1) (obC (gff hb1) (obC (gff hb1) (obC (gff hb1) (obC hb1 (oF (oF (oF (oF (oF (oT (oF (oF (oF (oF (oT obN))))))))))))))))))))))) ?_
    exact Sem.cast (by try rw [hb0];try rw [hb1];kernel_rfl) hk0
   ·rcases Bool.eq_false_or_eq_true ((↑(List.length (List.map encs_i64 (api_Auto.Follow a))):Int) != (↑(List.length (api_Auto.Sets a)):Int)) with hb2 | hb2
    ·refine sD kk [bT,bT,bT,bT,bT,bF,bT,bT,bT,bT,bT,bF,bF,bF,bF,bF,bF,bT,bF,bF,bF,bF,bT] [] [(112,vB true)] (obC (gft hb0) (obC (gft hb0) (obC (gft hb0) (obC (gft hb0) (obC (gft hb0) (obC hb0 (obC (gft hb1) (obC (gft hb1) (obC (gft hb1) (obC (gft hb1) (obC (gft hb1) (obC hb1 (obC (gff hb2) (obC (gff hb2) (obC (gff hb2) (obC (gff hb2) (obC (gff hb2) (obC hb2 (oF (oF (oF (oF (oT obN))))))))))))))))))))))) ?_
     exact Sem.cast (by try rw [hb0];try rw [hb1];try rw [hb2];kernel_rfl) hk0
    ·rcases Bool.eq_false_or_eq_true ((↑(List.length (List.map enc_bool (api_Auto.Ends a))):Int) != (↑(List.length (api_Auto.Sets a)):Int)) with hb3 | hb3
     ·refine sD kk [bT,bT,bT,bT,bT,bF,bT,bT,bT,bT,bT,bF,bT,bT,bT,bT,bT,bF,bF,bF,bF,bF,bT] [] [(112,vB true)] (obC (gft hb0) (obC (gft hb0) (obC (gft hb0) (obC (gft hb0) (obC (gft hb0) (obC hb0 (obC (gft hb1) (obC (gft hb1) (obC (gft hb1) (obC (gft hb1) (obC (gft hb1) (obC hb1 (obC (gft hb2) (obC (gft hb2) (obC (gft hb2) (obC (gft hb2) (obC (gft hb2) (obC hb2 (obC (gff hb3) (obC (gff hb3) (obC (gff hb3) (obC (gff hb3) (obC hb3 obN))))))))))))))))))))))) ?_
      exact Sem.cast (by try rw [hb0];try rw [hb1];try rw [hb2];try rw [hb3];kernel_rfl) hk0
     ·refine sDE kk [bT,bT,bT,bT,bT,bF,bT,bT,bT,bT,bT,bF,bT,bT,bT,bT,bT,bF,bT,bT,bT,bT,bF] [] [(112,vB (decide ((↑(List.length (List.map encs_i64 (api_Auto.Starts a))):Int) > (16:Int))))] [(112,vB (decide ((↑(List.length (api_Auto.Starts a)):Int) > (16:Int))))] (obC (gft hb0) (obC (gft hb0) (obC (gft hb0) (obC (gft hb0) (obC (gft hb0) (obC hb0 (obC (gft hb1) (obC (gft hb1) (obC (gft hb1) (obC (gft hb1) (obC (gft hb1) (obC hb1 (obC (gft hb2) (obC (gft hb2) (obC (gft hb2) (obC (gft hb2) (obC (gft hb2) (obC hb2 (obC (gft hb3) (obC (gft hb3) (obC (gft hb3) (obC (gft hb3) (obC hb3 obN))))))))))))))))))))))) ?_
      exact Sem.cast (by try rw [hb0];try rw [hb1];try rw [hb2];try rw [hb3];kernel_rfl) hk0
set_option maxHeartbeats 1000000 in
theorem W_heckleref10_Right (a:api_Auto) (res:Bool)
 (h:(((decide ((↑(List.length (api_Auto.Sets a)):Int) > (600:Int)) || ((↑(List.length (List.map enc_i64 (api_Auto.Owner a))):Int) != (↑(List.length (api_Auto.Sets a)):Int) || ((↑(List.length (List.map encs_i64 (api_Auto.Follow a))):Int) != (↑(List.length (api_Auto.Sets a)):Int) || ((↑(List.length (List.map enc_bool (api_Auto.Ends a))):Int) != (↑(List.length (api_Auto.Sets a)):Int) || decide ((↑(List.length (api_Auto.Starts a)):Int) > (16:Int))))))=true→(res=false))∧((decide ((↑(List.length (api_Auto.Sets a)):Int) > (600:Int)) || ((↑(List.length (List.map enc_i64 (api_Auto.Owner a))):Int) != (↑(List.length (api_Auto.Sets a)):Int) || ((↑(List.length (List.map encs_i64 (api_Auto.Follow a))):Int) != (↑(List.length (api_Auto.Sets a)):Int) || ((↑(List.length (List.map enc_bool (api_Auto.Ends a))):Int) != (↑(List.length (api_Auto.Sets a)):Int) || decide ((↑(List.length (api_Auto.Starts a)):Int) > (16:Int))))))=false→(∃ (Inv22:Int→Prop) (mu23:Int→Nat),Inv22 0∧(∀ (i:Int),Inv22 i→(((decide (i < (↑(List.length (api_Auto.Sets a)):Int)))=true→((0:Int)≤i)∧i < ↑(List.length (api_Auto.Owner a))∧((decide (gd (api_Auto.Owner a) i < (0:Int)))=false→((0:Int)≤i))∧((decide (gd (api_Auto.Owner a) i < (0:Int)))=false→i < ↑(List.length (api_Auto.Owner a)))∧((decide (gd (api_Auto.Owner a) i < (0:Int)))=false→((decide (gd (api_Auto.Owner a) i≥(40:Int)))=false→((0:Int)≤i)))∧((decide (gd (api_Auto.Owner a) i < (0:Int)))=false→((decide (gd (api_Auto.Owner a) i≥(40:Int)))=false→i < ↑(List.length (api_Auto.Sets a))))∧(((decide (gd (api_Auto.Owner a) i < (0:Int)) || (decide (gd (api_Auto.Owner a) i≥(40:Int)) || arr4_uint64.e0 (gd (api_Auto.Sets a) i) == 0 && (arr4_uint64.e1 (gd (api_Auto.Sets a) i) == 0 && (arr4_uint64.e2 (gd (api_Auto.Sets a) i) == 0 && (arr4_uint64.e3 (gd (api_Auto.Sets a) i) == 0 && true)))))=true→(res=false))∧((decide (gd (api_Auto.Owner a) i < (0:Int)) || (decide (gd (api_Auto.Owner a) i≥(40:Int)) || arr4_uint64.e0 (gd (api_Auto.Sets a) i) == 0 && (arr4_uint64.e1 (gd (api_Auto.Sets a) i) == 0 && (arr4_uint64.e2 (gd (api_Auto.Sets a) i) == 0 && (arr4_uint64.e3 (gd (api_Auto.Sets a) i) == 0 && true)))))=false→(Inv22 (w64 (i+1))∧mu23 (w64 (i+1)) < mu23 i))))∧((decide (i < (↑(List.length (api_Auto.Sets a)):Int)))=false→(∃ (Inv124:Int→Prop) (mu125:Int→Nat),Inv124 0∧(∀ (i_1:Int),Inv124 i_1→(((decide (i_1 < w64 ((↑(List.length (api_Auto.Sets a)):Int)+(↑(List.length (api_Auto.Starts a)):Int))))=true→(∃ J132:List Int→Prop,(∀ (l_2:List Int),J132 l_2→(∃ (Inv152:Int→Prop) (mu153:Int→Nat),Inv152 0∧(∀ (k_2:Int),Inv152 k_2→(((decide (k_2 < (↑(List.length l_2):Int)))=true→((0:Int)≤k_2)∧k_2 < ↑(List.length l_2)∧((decide (gd l_2 k_2 < (0:Int)))=false→((0:Int)≤k_2))∧((decide (gd l_2 k_2 < (0:Int)))=false→k_2 < ↑(List.length l_2))∧((decide (gd l_2 k_2 < (0:Int)))=false→((decide (gd l_2 k_2≥(↑(List.length (api_Auto.Sets a)):Int)))=false→((decide (k_2 > (0:Int)))=true→((0:Int)≤k_2))))∧((decide (gd l_2 k_2 < (0:Int)))=false→((decide (gd l_2 k_2≥(↑(List.length (api_Auto.Sets a)):Int)))=false→((decide (k_2 > (0:Int)))=true→k_2 < ↑(List.length l_2))))∧((decide (gd l_2 k_2 < (0:Int)))=false→((decide (gd l_2 k_2≥(↑(List.length (api_Auto.Sets a)):Int)))=false→((decide (k_2 > (0:Int)))=true→((0:Int)≤w64 (k_2 - 1)))))∧((decide (gd l_2 k_2 < (0:Int)))=false→((decide (gd l_2 k_2≥(↑(List.length (api_Auto.Sets a)):Int)))=false→((decide (k_2 > (0:Int)))=true→w64 (k_2 - 1) < ↑(List.length l_2))))∧(((decide (gd l_2 k_2 < (0:Int)) || (decide (gd l_2 k_2≥(↑(List.length (api_Auto.Sets a)):Int)) || decide (k_2 > (0:Int)) && decide (gd l_2 k_2≤gd l_2 (w64 (k_2 - 1)))))=true→(res=false))∧((decide (gd l_2 k_2 < (0:Int)) || (decide (gd l_2 k_2≥(↑(List.length (api_Auto.Sets a)):Int)) || decide (k_2 > (0:Int)) && decide (gd l_2 k_2≤gd l_2 (w64 (k_2 - 1)))))=false→(Inv152 (w64 (k_2+1))∧mu153 (w64 (k_2+1)) < mu153 k_2))))∧((decide (k_2 < (↑(List.length l_2):Int)))=false→(Inv124 (w64 (i_1+1))∧mu125 (w64 (i_1+1)) < mu125 i_1))))))∧(((decide (i_1 < (↑(List.length (api_Auto.Sets a)):Int)))=true→((0:Int)≤i_1)∧i_1 < ↑(List.length (api_Auto.Follow a))∧J132 (gd (api_Auto.Follow a) i_1))∧((decide (i_1 < (↑(List.length (api_Auto.Sets a)):Int)))=false→((0:Int)≤w64 (i_1 - (↑(List.length (api_Auto.Sets a)):Int)))∧w64 (i_1 - (↑(List.length (api_Auto.Sets a)):Int)) < ↑(List.length (api_Auto.Starts a))∧J132 (gd (api_Auto.Starts a) (w64 (i_1 - (↑(List.length (api_Auto.Sets a)):Int))))))))∧((decide (i_1 < w64 ((↑(List.length (api_Auto.Sets a)):Int)+(↑(List.length (api_Auto.Starts a)):Int))))=false→(res=true)))))))))))):C_heckleref10_Right a res:=by
 unfold C_heckleref10_Right
 have kk:=cfOk [] 128
 refine fD (x:=bodyOf Try.f22) kk Try.func22 ?_
 refine wkS [1] [(1,av_api_Auto a)] (by kernel_rfl) ?_
 refine sD kk [] [1] [(4,.ptr 8 0),(8,av_api_Auto a)] obN ?_
 refine sDE kk [] [] [(10,vi ((↑(List.length (List.map enc_arr4_uint64 (api_Auto.Sets a))):Int)))] [(10,vi ((↑(List.length (api_Auto.Sets a)):Int)))] obN ?_
 refine qD ?_
 refine sM [] [(118,vB (decide ((↑(List.length (api_Auto.Sets a)):Int) > (600:Int)) || ((↑(List.length (List.map enc_i64 (api_Auto.Owner a))):Int) != (↑(List.length (api_Auto.Sets a)):Int) || ((↑(List.length (List.map encs_i64 (api_Auto.Follow a))):Int) != (↑(List.length (api_Auto.Sets a)):Int) || ((↑(List.length (List.map enc_bool (api_Auto.Ends a))):Int) != (↑(List.length (api_Auto.Sets a)):Int) || decide ((↑(List.length (api_Auto.Starts a)):Int) > (16:Int)))))))] ?_ (fun hk0=>?_)
 ·refine cD (t:=39) (b:=decide ((↑(List.length (api_Auto.Sets a)):Int) > (600:Int)) || ((↑(List.length (List.map enc_i64 (api_Auto.Owner a))):Int) != (↑(List.length (api_Auto.Sets a)):Int) || ((↑(List.length (List.map encs_i64 (api_Auto.Follow a))):Int) != (↑(List.length (api_Auto.Sets a)):Int) || ((↑(List.length (List.map enc_bool (api_Auto.Ends a))):Int) != (↑(List.length (api_Auto.Sets a)):Int) || decide ((↑(List.length (api_Auto.Starts a)):Int) > (16:Int)))))) (fun hb4=>?_) (fun hb4=>?_)
  ·have h:=h.1 hb4
   refine sD kk [] [4,8,10,118] [(7,vB false)] obN ?_
   refine tD ?_
   obtain he0:=h
   subst res
   exact (endD [] (vB false) []).1
  ·have h:=h.2 hb4
   refine Sem.skip' (by kernel_rfl) Wk.refl ?_
   show Sem _ _ _ _ _
   refine wkD [118] ?_
   refine qD ?_
   refine sD kk [] [] [(13,vi 0)] obN ?_
   refine bD (id:=0) ?_
   obtain ⟨Inv22,mu23,h0Inv22,hInv22⟩:=h
   refine loD (fun (q:Int)=>(fun (i:Int)=>([(4,.ptr 8 0),(8,av_api_Auto a),(10,vi ((↑(List.length (api_Auto.Sets a)):Int))),(13,vi i)]:Sta)) q) (fun (q:Int)=>Inv22 q) (fun (q:Int)=>mu23 q) 0 [] h0Inv22 ?_
   rintro i hi
   have h:=hInv22 i hi
   refine qD ?_
   refine sD kk [] [] [(127,vB (decide (i < (↑(List.length (api_Auto.Sets a)):Int))))] obN ?_
   refine cD (t:=42) (b:=decide (i < (↑(List.length (api_Auto.Sets a)):Int))) (fun hb24=>?_) (fun hb24=>?_)
   ·have h:=h.1 hb24
    refine Sem.skip' (by kernel_rfl) Wk.refl ?_
    show Sem _ _ _ _ _
    refine wkD [127] ?_
    refine qD ?_
    refine bD (id:=1) ?_
    obtain ⟨h25,h⟩:=h
    obtain ⟨h26,h⟩:=h
    obtain ⟨h28,h29,h31,h32,h⟩:=h
    refine sM [] [(202,vB (decide (gd (api_Auto.Owner a) i < (0:Int)) || (decide (gd (api_Auto.Owner a) i≥(40:Int)) || arr4_uint64.e0 (gd (api_Auto.Sets a) i) == 0 && (arr4_uint64.e1 (gd (api_Auto.Sets a) i) == 0 && (arr4_uint64.e2 (gd (api_Auto.Sets a) i) == 0 && (arr4_uint64.e3 (gd (api_Auto.Sets a) i) == 0 && true))))))] ?_ (fun hk0=>?_)
    ·refine cD (t:=67) (b:=decide (gd (api_Auto.Owner a) i < (0:Int)) || (decide (gd (api_Auto.Owner a) i≥(40:Int)) || arr4_uint64.e0 (gd (api_Auto.Sets a) i) == 0 && (arr4_uint64.e1 (gd (api_Auto.Sets a) i) == 0 && (arr4_uint64.e2 (gd (api_Auto.Sets a) i) == 0 && (arr4_uint64.e3 (gd (api_Auto.Sets a) i) == 0 && true))))) (fun hb33=>?_) (fun hb33=>?_)
     ·have h:=h.1 hb33
      refine sD kk [] [4,8,10,13,202] [(7,vB false)] obN ?_
      refine tD ?_
      obtain he0:=h
      subst res
      exact (endD [] (vB false) []).1
     ·have h:=h.2 hb33
      refine Sem.skip' (by kernel_rfl) Wk.refl ?_
      show Sem _ _ _ _ _
      refine wkD [202] ?_
      refine rD kk [] [] [(13,vi (w64 (i+1)))] obN ?_
      exact lD (w64 (i+1)) [] h
    ·rcases Bool.eq_false_or_eq_true (decide (gd (api_Auto.Owner a) i < (0:Int))) with hb27 | hb27
     ·refine sD kk [.e (fi (gd (api_Auto.Owner a) i)),bF,bF,bF,bF,bF,bF,bT,bF,bF,bF,bF,bF,bF,bF,bT] [] [(202,vB true)] (obC h25 (obC (idx_ok enc_i64 (api_Auto.Owner a) i _ rfl h25 h26) (obC (gff hb27) (obC (gff hb27) (obC (gff hb27) (obC (gff hb27) (obC (gff hb27) (obC (gff hb27) (obC hb27 (oF (oF (oF (oF (oF (oF (oF (oT obN))))))))))))))))) ?_
      exact Sem.cast (by try rw [hb27];kernel_rfl) hk0
     ·rcases Bool.eq_false_or_eq_true (decide (gd (api_Auto.Owner a) i≥(40:Int))) with hb30 | hb30
      ·refine sD kk [.e (fi (gd (api_Auto.Owner a) i)),bT,bT,bT,bT,.e (fi (gd (api_Auto.Owner a) i)),bT,bT,bF,bF,bF,bF,bF,bF,bF,bF,bT] [] [(202,vB true)] (obC h25 (obC (idx_ok enc_i64 (api_Auto.Owner a) i _ rfl h25 h26) (obC (gft hb27) (obC (gft hb27) (obC (gft hb27) (obC (gft hb27) (obC (h28 hb27) (obC (idx_ok enc_i64 (api_Auto.Owner a) i _ rfl (h28 hb27) (h29 hb27)) (obC (gft hb27) (obC (gft hb27) (obC hb27 (obC (gff hb30) (obC (gff hb30) (obC (gff hb30) (obC (gff hb30) (obC (gff hb30) (obC (gff hb30) (obC (gff hb30) (obC hb30 obN))))))))))))))))))) ?_
       exact Sem.cast (by try rw [hb27];try rw [hb30];kernel_rfl) hk0
      ·refine sD kk [.e (fi (gd (api_Auto.Owner a) i)),bT,bT,bT,bT,.e (fi (gd (api_Auto.Owner a) i)),bT,bT,bF,bT,bT,bT,bT,.e (fv_arr4_uint64 (gd (api_Auto.Sets a) i)),bT,bT,bT,bF] [] [(202,vB (arr4_uint64.e0 (gd (api_Auto.Sets a) i) == 0 && (arr4_uint64.e1 (gd (api_Auto.Sets a) i) == 0 && (arr4_uint64.e2 (gd (api_Auto.Sets a) i) == 0 && (arr4_uint64.e3 (gd (api_Auto.Sets a) i) == 0 && true)))))] (obC h25 (obC (idx_ok enc_i64 (api_Auto.Owner a) i _ rfl h25 h26) (obC (gft hb27) (obC (gft hb27) (obC (gft hb27) (obC (gft hb27) (obC (h28 hb27) (obC (idx_ok enc_i64 (api_Auto.Owner a) i _ rfl (h28 hb27) (h29 hb27)) (obC (gft hb27) (obC (gft hb27) (obC hb27 (obC (gft hb30) (obC (gft hb30) (obC (gft hb30) (obC (gft hb30) (obC ((h31 hb27) hb30) (obC (idx_ok enc_arr4_uint64 (api_Auto.Sets a) i _ (enc_arr4_uint64_eq _) ((h31 hb27) hb30) ((h32 hb27) hb30)) (obC (gft hb30) (obC (gft hb30) (obC (gft hb30) (obC hb30 obN))))))))))))))))))))) ?_
       exact Sem.cast (by try rw [hb27];try rw [hb30];kernel_rfl) hk0
   ·have h:=h.2 hb24
    refine xD (i:=0) ?_
    show Sem _ _ _ _ _
    refine wkD [13,127] ?_
    refine qD ?_
    refine sD kk [] [] [(16,vi 0)] obN ?_
    refine bD (id:=2) ?_
    obtain ⟨Inv124,mu125,h0Inv124,hInv124⟩:=h
    refine loD (fun (q:Int)=>(fun (i_1:Int)=>([(4,.ptr 8 0),(8,av_api_Auto a),(10,vi ((↑(List.length (api_Auto.Sets a)):Int))),(16,vi i_1)]:Sta)) q) (fun (q:Int)=>Inv124 q) (fun (q:Int)=>mu125 q) 0 [] h0Inv124 ?_
    rintro i_1 hi
    have h:=hInv124 i_1 hi
    refine qD ?_
    refine sDE kk [] [] [(223,vB (decide (i_1 < w64 ((↑(List.length (api_Auto.Sets a)):Int)+(↑(List.length (List.map encs_i64 (api_Auto.Starts a))):Int)))))] [(223,vB (decide (i_1 < w64 ((↑(List.length (api_Auto.Sets a)):Int)+(↑(List.length (api_Auto.Starts a)):Int)))))] obN ?_
    refine cD (t:=74) (b:=decide (i_1 < w64 ((↑(List.length (api_Auto.Sets a)):Int)+(↑(List.length (api_Auto.Starts a)):Int)))) (fun hb126=>?_) (fun hb126=>?_)
    ·have h:=h.1 hb126
     refine Sem.skip' (by kernel_rfl) Wk.refl ?_
     show Sem _ _ _ _ _
     refine wkD [223] ?_
     refine qD ?_
     refine bD (id:=3) ?_
     refine sD kk [] [] [] obN ?_
     obtain ⟨J132,hJ132,h⟩:=h
     refine sjD (fun (q:List Int)=>J132 q) (fun (q:List Int)=>(fun (l_2:List Int)=>([(4,.ptr 8 0),(8,av_api_Auto a),(10,vi ((↑(List.length (api_Auto.Sets a)):Int))),(16,vi i_1),(19,vL enc_i64 l_2)]:Sta)) q) ?_ ?_
     ·rintro l_2 hj
      have h:=hJ132 l_2 hj
      refine sD kk [] [] [(22,vi 0)] obN ?_
      refine bD (id:=4) ?_
      obtain ⟨Inv152,mu153,h0Inv152,hInv152⟩:=h
      refine loD (fun (q:Int)=>(fun (k_2:Int)=>([(4,.ptr 8 0),(8,av_api_Auto a),(10,vi ((↑(List.length (api_Auto.Sets a)):Int))),(16,vi i_1),(19,vL enc_i64 l_2),(22,vi k_2)]:Sta)) q) (fun (q:Int)=>Inv152 q) (fun (q:Int)=>mu153 q) 0 [] h0Inv152 ?_
      rintro k_2 hi
      have h:=hInv152 k_2 hi
      refine qD ?_
      refine sDE kk [] [] [(289,vB (decide (k_2 < (↑(List.length (List.map enc_i64 l_2)):Int))))] [(289,vB (decide (k_2 < (↑(List.length l_2):Int))))] obN ?_
      refine cD (t:=96) (b:=decide (k_2 < (↑(List.length l_2):Int))) (fun hb154=>?_) (fun hb154=>?_)
      ·have h:=h.1 hb154
       refine Sem.skip' (by kernel_rfl) Wk.refl ?_
       show Sem _ _ _ _ _
       refine wkD [289] ?_
       refine qD ?_
       refine bD (id:=5) ?_
       obtain ⟨h155,h⟩:=h
       obtain ⟨h156,h⟩:=h
       obtain ⟨h158,h159,h162,h163,h164,h165,h⟩:=h
       refine sM [] [(382,vB (decide (gd l_2 k_2 < (0:Int)) || (decide (gd l_2 k_2≥(↑(List.length (api_Auto.Sets a)):Int)) || decide (k_2 > (0:Int)) && decide (gd l_2 k_2≤gd l_2 (w64 (k_2 - 1))))))] ?_ (fun hk0=>?_)
       ·refine cD (t:=127) (b:=decide (gd l_2 k_2 < (0:Int)) || (decide (gd l_2 k_2≥(↑(List.length (api_Auto.Sets a)):Int)) || decide (k_2 > (0:Int)) && decide (gd l_2 k_2≤gd l_2 (w64 (k_2 - 1))))) (fun hb166=>?_) (fun hb166=>?_)
        ·have h:=h.1 hb166
         refine sD kk [] [4,8,10,16,19,22,382] [(7,vB false)] obN ?_
         refine tD ?_
         obtain he0:=h
         subst res
         exact (endD [] (vB false) []).1
        ·have h:=h.2 hb166
         refine Sem.skip' (by kernel_rfl) Wk.refl ?_
         show Sem _ _ _ _ _
         refine wkD [382] ?_
         refine rD kk [] [] [(22,vi (w64 (k_2+1)))] obN ?_
         exact lD (w64 (k_2+1)) [] h
       ·rcases Bool.eq_false_or_eq_true (decide (gd l_2 k_2 < (0:Int))) with hb157 | hb157
        ·refine sD kk [.e (fi (gd l_2 k_2)),bF,bF,bF,bF,bF,bF,bT,bF,bF,bF,bF,bT] [] [(382,vB true)] (obC h155 (obC (idx_ok enc_i64 l_2 k_2 _ rfl h155 h156) (obC (gff hb157) (obC (gff hb157) (obC (gff hb157) (obC (gff hb157) (obC (gff hb157) (obC (gff hb157) (obC hb157 (oF (oF (oF (oF (oT obN)))))))))))))) ?_
         exact Sem.cast (by try rw [hb157];kernel_rfl) hk0
        ·rcases Bool.eq_false_or_eq_true (decide (gd l_2 k_2≥(↑(List.length (api_Auto.Sets a)):Int))) with hb160 | hb160
         ·refine sD kk [.e (fi (gd l_2 k_2)),bT,bT,bT,.e (fi (gd l_2 k_2)),bT,bT,bT,bF,bF,bF,bF,bF,bT] [] [(382,vB true)] (obC h155 (obC (idx_ok enc_i64 l_2 k_2 _ rfl h155 h156) (obC (gft hb157) (obC (gft hb157) (obC (gft hb157) (obC (h158 hb157) (obC (idx_ok enc_i64 l_2 k_2 _ rfl (h158 hb157) (h159 hb157)) (obC (gft hb157) (obC (gft hb157) (obC (gft hb157) (obC hb157 (obC (gff hb160) (obC (gff hb160) (obC (gff hb160) (obC (gff hb160) (obC hb160 obN)))))))))))))))) ?_
          exact Sem.cast (by try rw [hb157];try rw [hb160];kernel_rfl) hk0
         ·rcases Bool.eq_false_or_eq_true (decide (k_2 > (0:Int))) with hb161 | hb161
          ·refine sD kk [.e (fi (gd l_2 k_2)),bT,bT,bT,.e (fi (gd l_2 k_2)),bT,bT,bT,bF,bT,bT,bT,bT,bT,bT,.e (fi (gd l_2 k_2)),bT,bT,bT,bT,bT,.e (fi (gd l_2 (w64 (k_2 - 1)))),bT,bT,bT,bT,bF] [] [(382,vB (decide (gd l_2 k_2≤gd l_2 (w64 (k_2 - 1)))))] (obC h155 (obC (idx_ok enc_i64 l_2 k_2 _ rfl h155 h156) (obC (gft hb157) (obC (gft hb157) (obC (gft hb157) (obC (h158 hb157) (obC (idx_ok enc_i64 l_2 k_2 _ rfl (h158 hb157) (h159 hb157)) (obC (gft hb157) (obC (gft hb157) (obC (gft hb157) (obC hb157 (obC (gft hb160) (obC (gft hb160) (obC (gft hb160) (obC (gtt hb161) (obC (gtt hb161) (obC (gtt hb161) (obC (((h162 hb157) hb160) hb161) (obC (idx_ok enc_i64 l_2 k_2 _ rfl (((h162 hb157) hb160) hb161) (((h163 hb157) hb160) hb161)) (obC (gtt hb161) (obC (gtt hb161) (obC (gtt hb161) (obC (gtt hb161) (obC (gtt hb161) (obC (((h164 hb157) hb160) hb161) (obC (idx_ok enc_i64 l_2 (w64 (k_2 - 1)) _ rfl (((h164 hb157) hb160) hb161) (((h165 hb157) hb160) hb161)) (obC (gtt hb161) (obC (gtt hb161) (obC (gft hb160) (obC hb161 (obC hb160 obN))))))))))))))))))))))))))))))) ?_
           exact Sem.cast (by try rw [hb157];try rw [hb160];try rw [hb161];kernel_rfl) hk0
          ·refine sD kk [.e (fi (gd l_2 k_2)),bT,bT,bT,.e (fi (gd l_2 k_2)),bT,bT,bT,bF,bT,bT,bT,bF,bF,bF,bF,bF,bF,bF,bF,bF,bF,bT,bF,bF] [] [(382,vB false)] (obC h155 (obC (idx_ok enc_i64 l_2 k_2 _ rfl h155 h156) (obC (gft hb157) (obC (gft hb157) (obC (gft hb157) (obC (h158 hb157) (obC (idx_ok enc_i64 l_2 k_2 _ rfl (h158 hb157) (h159 hb157)) (obC (gft hb157) (obC (gft hb157) (obC (gft hb157) (obC hb157 (obC (gft hb160) (obC (gft hb160) (obC (gft hb160) (obC (gtf hb161) (obC (gtf hb161) (obC (gtf hb161) (obC (gtf hb161) (obC (gtf hb161) (obC (gtf hb161) (obC (gtf hb161) (obC (gtf hb161) (obC (gtf hb161) (obC (gtf hb161) (obC (gft hb160) (obC hb161 (obC hb160 obN))))))))))))))))))))))))))) ?_
           exact Sem.cast (by try rw [hb157];try rw [hb160];try rw [hb161];kernel_rfl) hk0
      ·have h:=h.2 hb154
       refine xD (i:=4) ?_
       show Sem _ _ _ _ _
       refine wkD [19,22,289] ?_
       refine rD kk [] [] [(16,vi (w64 (i_1+1)))] obN ?_
       exact lD (w64 (i_1+1)) [] h
     ·refine sD kk [] [] [(241,vB (decide (i_1 < (↑(List.length (api_Auto.Sets a)):Int))))] obN ?_
      refine cD (t:=80) (b:=decide (i_1 < (↑(List.length (api_Auto.Sets a)):Int))) (fun hb167=>?_) (fun hb167=>?_)
      ·have h:=h.1 hb167
       obtain ⟨h168,h⟩:=h
       obtain ⟨h169,h⟩:=h
       refine rD kk [.e (fL enc_i64 (gd (api_Auto.Follow a) i_1))] [241] [(19,vL enc_i64 (gd (api_Auto.Follow a) i_1))] (obC h168 (obC (idx_ok encs_i64 (api_Auto.Follow a) i_1 _ rfl h168 h169) obN)) ?_
       exact jD (gd (api_Auto.Follow a) i_1) [] h
      ·have h:=h.2 hb167
       obtain ⟨h170,h⟩:=h
       obtain ⟨h171,h⟩:=h
       refine rD kk [.e (fL enc_i64 (gd (api_Auto.Starts a) (w64 (i_1 - (↑(List.length (api_Auto.Sets a)):Int)))))] [241] [(19,vL enc_i64 (gd (api_Auto.Starts a) (w64 (i_1 - (↑(List.length (api_Auto.Sets a)):Int)))))] (obC h170 (obC (idx_ok encs_i64 (api_Auto.Starts a) (w64 (i_1 - (↑(List.length (api_Auto.Sets a)):Int))) _ rfl h170 h171) obN)) ?_
       exact jD (gd (api_Auto.Starts a) (w64 (i_1 - (↑(List.length (api_Auto.Sets a)):Int)))) [] h
    ·have h:=h.2 hb126
     refine xD (i:=2) ?_
     show Sem _ _ _ _ _
     refine wkD [4,8,10,16,223] ?_
     refine sD kk [] [] [(7,vB true)] obN ?_
     refine tD ?_
     obtain he0:=h
     subst res
     exact (endD [] (vB true) []).1
 ·rcases Bool.eq_false_or_eq_true (decide ((↑(List.length (api_Auto.Sets a)):Int) > (600:Int))) with hb0 | hb0
  ·refine sD kk [bF,bF,bF,bF,bF,bT,bF,bF,bF,bF,bF,bT,bF,bF,bF,bF,bF,bT,bF,bF,bF,bF,bT] [] [(118,vB true)] (obC (gff hb0) (obC (gff hb0) (obC (gff hb0) (obC (gff hb0) (obC (gff hb0) (obC hb0 (oF (oF (oF (oF (oF (oT (oF (oF (oF (oF (oF (oT (oF (oF (oF (oF (oT obN))))))))))))))))))))))) ?_
   exact Sem.cast (by try rw [hb0];kernel_rfl) hk0
  ·rcases Bool.eq_false_or_eq_true ((↑(List.length (List.map enc_i64 (api_Auto.Owner a))):Int) != (↑(List.length (api_Auto.Sets a)):Int)) with hb1 | hb1
   ·refine sD kk [bT,bT,bT,bT,bT,bF,bF,bF,bF,bF,bF,bT,bF,bF,bF,bF,bF,bT,bF,bF,bF,bF,bT] [] [(118,vB true)] (obC (gft hb0) (obC (gft hb0) (obC (gft hb0) (obC (gft hb0) (obC (gft hb0) (obC hb0 (obC (gff hb1) (obC (gff hb1) (obC (gff hb1) (obC (gff hb1) (obC (gff hb1) (obC hb1 (oF (oF (oF (oF (oF (oT (oF (oF (oF (oF (oT obN))))))))))))))))))))))) ?_
    exact Sem.cast (by try rw [hb0];try rw [hb1];kernel_rfl) hk0
   ·rcases Bool.eq_false_or_eq_true ((↑(List.length (List.map encs_i64 (api_Auto.Follow a))):Int) != (↑(List.length (api_Auto.Sets a)):Int)) with hb2 | hb2
    ·refine sD kk [bT,bT,bT,bT,bT,bF,bT,bT,bT,bT,bT,bF,bF,bF,bF,bF,bF,bT,bF,bF,bF,bF,bT] [] [(118,vB true)] (obC (gft hb0) (obC (gft hb0) (obC (gft hb0) (obC (gft hb0) (obC (gft hb0) (obC hb0 (obC (gft hb1) (obC (gft hb1) (obC (gft hb1) (obC (gft hb1) (obC (gft hb1) (obC hb1 (obC (gff hb2) (obC (gff hb2) (obC (gff hb2) (obC (gff hb2) (obC (gff hb2) (obC hb2 (oF (oF (oF (oF (oT obN))))))))))))))))))))))) ?_
     exact Sem.cast (by try rw [hb0];try rw [hb1];try rw [hb2];kernel_rfl) hk0
    ·rcases Bool.eq_false_or_eq_true ((↑(List.length (List.map enc_bool (api_Auto.Ends a))):Int) != (↑(List.length (api_Auto.Sets a)):Int)) with hb3 | hb3
     ·refine sD kk [bT,bT,bT,bT,bT,bF,bT,bT,bT,bT,bT,bF,bT,bT,bT,bT,bT,bF,bF,bF,bF,bF,bT] [] [(118,vB true)] (obC (gft hb0) (obC (gft hb0) (obC (gft hb0) (obC (gft hb0) (obC (gft hb0) (obC hb0 (obC (gft hb1) (obC (gft hb1) (obC (gft hb1) (obC (gft hb1) (obC (gft hb1) (obC hb1 (obC (gft hb2) (obC (gft hb2) (obC (gft hb2) (obC (gft hb2) (obC (gft hb2) (obC hb2 (obC (gff hb3) (obC (gff hb3) (obC (gff hb3) (obC (gff hb3) (obC hb3 obN))))))))))))))))))))))) ?_
      exact Sem.cast (by try rw [hb0];try rw [hb1];try rw [hb2];try rw [hb3];kernel_rfl) hk0
     ·refine sDE kk [bT,bT,bT,bT,bT,bF,bT,bT,bT,bT,bT,bF,bT,bT,bT,bT,bT,bF,bT,bT,bT,bT,bF] [] [(118,vB (decide ((↑(List.length (List.map encs_i64 (api_Auto.Starts a))):Int) > (16:Int))))] [(118,vB (decide ((↑(List.length (api_Auto.Starts a)):Int) > (16:Int))))] (obC (gft hb0) (obC (gft hb0) (obC (gft hb0) (obC (gft hb0) (obC (gft hb0) (obC hb0 (obC (gft hb1) (obC (gft hb1) (obC (gft hb1) (obC (gft hb1) (obC (gft hb1) (obC hb1 (obC (gft hb2) (obC (gft hb2) (obC (gft hb2) (obC (gft hb2) (obC (gft hb2) (obC hb2 (obC (gft hb3) (obC (gft hb3) (obC (gft hb3) (obC (gft hb3) (obC hb3 obN))))))))))))))))))))))) ?_
      exact Sem.cast (by try rw [hb0];try rw [hb1];try rw [hb2];try rw [hb3];kernel_rfl) hk0
set_option maxHeartbeats 1000000 in
theorem W_set_Has (s0:arr4_uint64) (b:Int) (res:Bool)
 (h:(((decide (b≥(0:Int)))=true→(((decide (b < (256:Int)))=true→((w64 (Int.tdiv b (64:Int))=0∨w64 (Int.tdiv b (64:Int))=1∨w64 (Int.tdiv b (64:Int))=2∨w64 (Int.tdiv b (64:Int))=3)∧((decide (w64 (Int.tdiv b (64:Int))=(0:Int)))=true→((decide (b≥(0:Int)))=true→((decide (b < (256:Int)))=true→((decide (w64 (Int.tdiv b (64:Int))=(0:Int)))=true→((0:Int)≤Int.tmod b (64:Int)))))∧(res=(IntKind.wrap IntKind.u64 (↑(BitVec.toNat (BitVec.ofInt (IntKind.bits IntKind.u64) (arr4_uint64.e0 s0) &&& BitVec.ofInt (IntKind.bits IntKind.u64) (IntKind.wrap IntKind.u64 ((1:Int) * (2:Int) ^ Min.min (Int.toNat (Int.tmod b (64:Int))) (IntKind.bits IntKind.u64))))):Int) != (0:Int))))∧((decide (w64 (Int.tdiv b (64:Int))=(1:Int)))=true→((decide (b≥(0:Int)))=true→((decide (b < (256:Int)))=true→((decide (w64 (Int.tdiv b (64:Int))=(1:Int)))=true→((0:Int)≤Int.tmod b (64:Int)))))∧(res=(IntKind.wrap IntKind.u64 (↑(BitVec.toNat (BitVec.ofInt (IntKind.bits IntKind.u64) (arr4_uint64.e1 s0) &&& BitVec.ofInt (IntKind.bits IntKind.u64) (IntKind.wrap IntKind.u64 ((1:Int) * (2:Int) ^ Min.min (Int.toNat (Int.tmod b (64:Int))) (IntKind.bits IntKind.u64))))):Int) != (0:Int))))∧((decide (w64 (Int.tdiv b (64:Int))=(2:Int)))=true→((decide (b≥(0:Int)))=true→((decide (b < (256:Int)))=true→((decide (w64 (Int.tdiv b (64:Int))=(2:Int)))=true→((0:Int)≤Int.tmod b (64:Int)))))∧(res=(IntKind.wrap IntKind.u64 (↑(BitVec.toNat (BitVec.ofInt (IntKind.bits IntKind.u64) (arr4_uint64.e2 s0) &&& BitVec.ofInt (IntKind.bits IntKind.u64) (IntKind.wrap IntKind.u64 ((1:Int) * (2:Int) ^ Min.min (Int.toNat (Int.tmod b (64:Int))) (IntKind.bits IntKind.u64))))):Int) != (0:Int))))∧((decide (w64 (Int.tdiv b (64:Int))=(3:Int)))=true→((decide (b≥(0:Int)))=true→((decide (b < (256:Int)))=true→((decide (w64 (Int.tdiv b (64:Int))=(3:Int)))=true→((0:Int)≤Int.tmod b (64:Int)))))∧(res=(IntKind.wrap IntKind.u64 (↑(BitVec.toNat (BitVec.ofInt (IntKind.bits IntKind.u64) (arr4_uint64.e3 s0) &&& BitVec.ofInt (IntKind.bits IntKind.u64) (IntKind.wrap IntKind.u64 ((1:Int) * (2:Int) ^ Min.min (Int.toNat (Int.tmod b (64:Int))) (IntKind.bits IntKind.u64))))):Int) != (0:Int))))))∧((decide (b < (256:Int)))=false→(res=false))))∧((decide (b≥(0:Int)))=false→(res=false)))):C_set_Has s0 b res:=by
 unfold C_set_Has
 have kk:=cfOk [] 22
 refine fD (x:=bodyOf Try.f62) kk Try.func62 ?_
 refine wkS [1,4] [(1,av_arr4_uint64 s0),(4,vi b)] (by kernel_rfl) ?_
 refine sD kk [] [1] [(7,.ptr 14 0),(14,av_arr4_uint64 s0)] obN ?_
 rcases Bool.eq_false_or_eq_true (decide (b≥(0:Int))) with hb0 | hb0
 ·have h:=h.1 hb0
  rcases Bool.eq_false_or_eq_true (decide (b < (256:Int))) with hb1 | hb1
  ·have h:=h.1 hb1
   obtain ⟨hor,h⟩:=h
   rcases hor with hb2 | hb2 | hb2 | hb2
   ·have hb2:=decide_eq_true hb2
    have h:=h.1 hb2
    obtain ⟨h3,h⟩:=h
    refine sD kk [bT,bT,bT,bT,bT,bT,.n 0,bT,bT,bT,bT,bT,bT,bT] [4,7,14] [(13,vB (IntKind.wrap IntKind.u64 (↑(BitVec.toNat (BitVec.ofInt (IntKind.bits IntKind.u64) (arr4_uint64.e0 s0) &&& BitVec.ofInt (IntKind.bits IntKind.u64) (IntKind.wrap IntKind.u64 ((1:Int) * (2:Int) ^ Min.min (Int.toNat (Int.tmod b (64:Int))) (IntKind.bits IntKind.u64))))):Int) != (0:Int)))] (obC (gtt hb0) (obC (gtt hb0) (obC hb0 (obC (gtt hb1) (obC (gtt hb1) (obC (show (64:Int)≠(0:Int) from by first | decide | rfl | trivial) (obC (gtt hb1) (obC (of_decide_eq_true hb2) (obC (gtt hb1) (obC (gtt hb1) (obC (gtt hb1) (obC (show (64:Int)≠(0:Int) from by first | decide | rfl | trivial) (obC (gtt hb1) (obC (((h3 hb0) hb1) hb2) (obC (gtt hb1) (obC (gtt hb1) (obC hb1 obN))))))))))))))))) ?_
    refine tD ?_
    obtain he0:=h
    subst res
    exact (endD [] (vB (IntKind.wrap IntKind.u64 (↑(BitVec.toNat (BitVec.ofInt (IntKind.bits IntKind.u64) (arr4_uint64.e0 s0) &&& BitVec.ofInt (IntKind.bits IntKind.u64) (IntKind.wrap IntKind.u64 ((1:Int) * (2:Int) ^ Min.min (Int.toNat (Int.tmod b (64:Int))) (IntKind.bits IntKind.u64))))):Int) != (0:Int))) []).1
   ·have hb2:=decide_eq_true hb2
    have h:=h.2.1 hb2
    obtain ⟨h4,h⟩:=h
    refine sD kk [bT,bT,bT,bT,bT,bT,.n 1,bT,bT,bT,bT,bT,bT,bT] [4,7,14] [(13,vB (IntKind.wrap IntKind.u64 (↑(BitVec.toNat (BitVec.ofInt (IntKind.bits IntKind.u64) (arr4_uint64.e1 s0) &&& BitVec.ofInt (IntKind.bits IntKind.u64) (IntKind.wrap IntKind.u64 ((1:Int) * (2:Int) ^ Min.min (Int.toNat (Int.tmod b (64:Int))) (IntKind.bits IntKind.u64))))):Int) != (0:Int)))] (obC (gtt hb0) (obC (gtt hb0) (obC hb0 (obC (gtt hb1) (obC (gtt hb1) (obC (show (64:Int)≠(0:Int) from by first | decide | rfl | trivial) (obC (gtt hb1) (obC (of_decide_eq_true hb2) (obC (gtt hb1) (obC (gtt hb1) (obC (gtt hb1) (obC (show (64:Int)≠(0:Int) from by first | decide | rfl | trivial) (obC (gtt hb1) (obC (((h4 hb0) hb1) hb2) (obC (gtt hb1) (obC (gtt hb1) (obC hb1 obN))))))))))))))))) ?_
    refine tD ?_
    obtain he0:=h
    subst res
    exact (endD [] (vB (IntKind.wrap IntKind.u64 (↑(BitVec.toNat (BitVec.ofInt (IntKind.bits IntKind.u64) (arr4_uint64.e1 s0) &&& BitVec.ofInt (IntKind.bits IntKind.u64) (IntKind.wrap IntKind.u64 ((1:Int) * (2:Int) ^ Min.min (Int.toNat (Int.tmod b (64:Int))) (IntKind.bits IntKind.u64))))):Int) != (0:Int))) []).1
   ·have hb2:=decide_eq_true hb2
    have h:=h.2.2.1 hb2
    obtain ⟨h5,h⟩:=h
    refine sD kk [bT,bT,bT,bT,bT,bT,.n 2,bT,bT,bT,bT,bT,bT,bT] [4,7,14] [(13,vB (IntKind.wrap IntKind.u64 (↑(BitVec.toNat (BitVec.ofInt (IntKind.bits IntKind.u64) (arr4_uint64.e2 s0) &&& BitVec.ofInt (IntKind.bits IntKind.u64) (IntKind.wrap IntKind.u64 ((1:Int) * (2:Int) ^ Min.min (Int.toNat (Int.tmod b (64:Int))) (IntKind.bits IntKind.u64))))):Int) != (0:Int)))] (obC (gtt hb0) (obC (gtt hb0) (obC hb0 (obC (gtt hb1) (obC (gtt hb1) (obC (show (64:Int)≠(0:Int) from by first | decide | rfl | trivial) (obC (gtt hb1) (obC (of_decide_eq_true hb2) (obC (gtt hb1) (obC (gtt hb1) (obC (gtt hb1) (obC (show (64:Int)≠(0:Int) from by first | decide | rfl | trivial) (obC (gtt hb1) (obC (((h5 hb0) hb1) hb2) (obC (gtt hb1) (obC (gtt hb1) (obC hb1 obN))))))))))))))))) ?_
    refine tD ?_
    obtain he0:=h
    subst res
    exact (endD [] (vB (IntKind.wrap IntKind.u64 (↑(BitVec.toNat (BitVec.ofInt (IntKind.bits IntKind.u64) (arr4_uint64.e2 s0) &&& BitVec.ofInt (IntKind.bits IntKind.u64) (IntKind.wrap IntKind.u64 ((1:Int) * (2:Int) ^ Min.min (Int.toNat (Int.tmod b (64:Int))) (IntKind.bits IntKind.u64))))):Int) != (0:Int))) []).1
   ·have hb2:=decide_eq_true hb2
    have h:=h.2.2.2 hb2
    obtain ⟨h6,h⟩:=h
    refine sD kk [bT,bT,bT,bT,bT,bT,.n 3,bT,bT,bT,bT,bT,bT,bT] [4,7,14] [(13,vB (IntKind.wrap IntKind.u64 (↑(BitVec.toNat (BitVec.ofInt (IntKind.bits IntKind.u64) (arr4_uint64.e3 s0) &&& BitVec.ofInt (IntKind.bits IntKind.u64) (IntKind.wrap IntKind.u64 ((1:Int) * (2:Int) ^ Min.min (Int.toNat (Int.tmod b (64:Int))) (IntKind.bits IntKind.u64))))):Int) != (0:Int)))] (obC (gtt hb0) (obC (gtt hb0) (obC hb0 (obC (gtt hb1) (obC (gtt hb1) (obC (show (64:Int)≠(0:Int) from by first | decide | rfl | trivial) (obC (gtt hb1) (obC (of_decide_eq_true hb2) (obC (gtt hb1) (obC (gtt hb1) (obC (gtt hb1) (obC (show (64:Int)≠(0:Int) from by first | decide | rfl | trivial) (obC (gtt hb1) (obC (((h6 hb0) hb1) hb2) (obC (gtt hb1) (obC (gtt hb1) (obC hb1 obN))))))))))))))))) ?_
    refine tD ?_
    obtain he0:=h
    subst res
    exact (endD [] (vB (IntKind.wrap IntKind.u64 (↑(BitVec.toNat (BitVec.ofInt (IntKind.bits IntKind.u64) (arr4_uint64.e3 s0) &&& BitVec.ofInt (IntKind.bits IntKind.u64) (IntKind.wrap IntKind.u64 ((1:Int) * (2:Int) ^ Min.min (Int.toNat (Int.tmod b (64:Int))) (IntKind.bits IntKind.u64))))):Int) != (0:Int))) []).1
  ·have h:=h.2 hb1
   refine sD kk [bT,bT,bT,bF,bF,bF,bF,bF,bF,bF,bF,bF,bF] [4,7,14] [(13,vB false)] (obC (gtt hb0) (obC (gtt hb0) (obC hb0 (obC (gtf hb1) (obC (gtf hb1) (obC (gtf hb1) (obC (gtf hb1) (obC (gtf hb1) (obC (gtf hb1) (obC (gtf hb1) (obC (gtf hb1) (obC (gtf hb1) (obC hb1 obN))))))))))))) ?_
   refine tD ?_
   obtain he0:=h
   subst res
   exact (endD [] (vB false) []).1
 ·have h:=h.2 hb0
  refine sD kk [bF,bF,bF,bF,bF,bF,bF,bF,bF,bF,bF,bF,bF] [4,7,14] [(13,vB false)] (obC (gtf hb0) (obC (gtf hb0) (obC hb0 (oF (oF (oF (oF (oF (oF (oF (oF (oF (oF obN))))))))))))) ?_
  refine tD ?_
  obtain he0:=h
  subst res
  exact (endD [] (vB false) []).1
set_option maxHeartbeats 1000000 in
theorem W_slices_Concat__int_int (slices:(List (List Int))) (res:(List Int))
 (h:(∃ (Inv14:Int→Int→Prop) (mu15:Int→Int→Nat),Inv14 0 0∧(∀ (size:Int) (t11:Int),Inv14 size t11→(((decide (t11 < (↑(List.length slices):Int)))=true→(∃ J20:Prop,(J20→(Inv14 (w64 (size+(↑(List.length (gd slices t11)):Int))) (w64 (t11+1))∧mu15 (w64 (size+(↑(List.length (gd slices t11)):Int))) (w64 (t11+1)) < mu15 size t11))∧((0:Int)≤t11)∧t11 < ↑(List.length slices)∧(((decide (w64 (size+(↑(List.length (gd slices t11)):Int)) < (0:Int)))=true→False)∧((decide (w64 (size+(↑(List.length (gd slices t11)):Int)) < (0:Int)))=false→J20))))∧((decide (t11 < (↑(List.length slices):Int)))=false→((0:Int)≤size∧size≤(2:Int) ^ (40:Nat))∧(∃ (Inv32:List Int→Int→Prop) (mu33:List Int→Int→Nat),Inv32 ([]) 0∧(∀ (newslice:List Int) (t27:Int),Inv32 newslice t27→(((decide (t27 < (↑(List.length slices):Int)))=true→((0:Int)≤t27)∧t27 < ↑(List.length slices)∧((List.length newslice+List.length (gd slices t27)) * (8:Nat)≤(2:Nat) ^ (47:Nat))∧(Inv32 (newslice++gd slices t27) (w64 (t27+1))∧mu33 (newslice++gd slices t27) (w64 (t27+1)) < mu33 newslice t27))∧((decide (t27 < (↑(List.length slices):Int)))=false→(res=newslice)))))))))):C_slices_Concat__int_int slices res:=by
 unfold C_slices_Concat__int_int
 have kk:=cfOk [35] 36
 refine fD (x:=bodyOf Try.f79) kk Try.func79 ?_
 refine wkS [1] [(1,vL encs_i64 slices)] (by kernel_rfl) ?_
 refine sD kk [] [] [] obN ?_
 refine sD kk [] [] [(10,vi 0)] obN ?_
 refine qD ?_
 refine sDE kk [] [] [(28,vL encs_i64 slices),(31,vi ((↑(List.length (List.map encs_i64 slices)):Int))),(34,vi 0)] [(28,vL encs_i64 slices),(31,vi ((↑(List.length slices):Int))),(34,vi 0)] obN ?_
 refine bD (id:=0) ?_
 obtain ⟨Inv14,mu15,h0Inv14,hInv14⟩:=h
 refine loD (fun (q:Int×Int)=>(fun (size:Int) (t11:Int)=>([(1,vL encs_i64 slices),(10,vi size),(28,vL encs_i64 slices),(31,vi ((↑(List.length slices):Int))),(34,vi t11)]:Sta)) q.1 q.2) (fun (q:Int×Int)=>Inv14 q.1 q.2) (fun (q:Int×Int)=>mu15 q.1 q.2) (0,0) [] h0Inv14 ?_
 rintro ⟨size,t11⟩ hi
 have h:=hInv14 size t11 hi
 refine sD kk [] [] [(37,vB (decide (t11 < (↑(List.length slices):Int))))] obN ?_
 refine qD ?_
 refine cD (t:=12) (b:=decide (t11 < (↑(List.length slices):Int))) (fun hb16=>?_) (fun hb16=>?_)
 ·have h:=h.1 hb16
  refine Sem.skip' (by kernel_rfl) Wk.refl ?_
  show Sem _ _ _ _ _
  refine wkD [37] ?_
  obtain ⟨J20,hJ20,h⟩:=h
  refine sjD (fun (_:Unit)=>J20) (fun (_:Unit)=>[(1,vL encs_i64 slices),(10,vi (w64 (size+(↑(List.length (gd slices t11)):Int)))),(28,vL encs_i64 slices),(31,vi ((↑(List.length slices):Int))),(34,vi t11)]) ?_ ?_
  ·rintro _ hj
   have h:=hJ20 hj
   refine rD kk [] [] [(34,vi (w64 (t11+1)))] obN ?_
   exact lD ((w64 (size+(↑(List.length (gd slices t11)):Int))),(w64 (t11+1))) [] h
  ·refine bD (id:=1) ?_
   obtain ⟨h21,h⟩:=h
   obtain ⟨h22,h⟩:=h
   refine sD kk [.e (fL enc_i64 (gd slices t11))] [] [(16,vL enc_i64 (gd slices t11))] (obC h21 (obC (idx_ok encs_i64 slices t11 _ rfl h21 h22) obN)) ?_
   refine sDE kk [] [16] [(10,vi (w64 (size+(↑(List.length (List.map enc_i64 (gd slices t11))):Int))))] [(10,vi (w64 (size+(↑(List.length (gd slices t11)):Int))))] obN ?_
   refine sD kk [] [] [(61,vB (decide (w64 (size+(↑(List.length (gd slices t11)):Int)) < (0:Int))))] obN ?_
   refine cD (t:=20) (b:=decide (w64 (size+(↑(List.length (gd slices t11)):Int)) < (0:Int))) (fun hb23=>?_) (fun hb23=>?_)
   ·have h:=h.1 hb23
    exact h.elim
   ·have h:=h.2 hb23
    refine Sem.skip' (by kernel_rfl) Wk.refl ?_
    exact jD () [] h
 ·have h:=h.2 hb16
  refine xD (i:=0) ?_
  show Sem _ _ _ _ _
  refine wkD [28,31,34,37] ?_
  obtain ⟨h24,h⟩:=h
  refine sDE kk [] [10] [(19,.own 3 ([]))] [(19,oL 3 enc_i64 ([]))] (obC h24 obN) ?_
  refine qD ?_
  refine sDE kk [] [1] [(76,vL encs_i64 slices),(79,vi ((↑(List.length (List.map encs_i64 slices)):Int))),(82,vi 0)] [(76,vL encs_i64 slices),(79,vi ((↑(List.length slices):Int))),(82,vi 0)] obN ?_
  refine bD (id:=2) ?_
  obtain ⟨Inv32,mu33,h0Inv32,hInv32⟩:=h
  refine loD (fun (q:List Int×Int)=>(fun (newslice:List Int) (t27:Int)=>([(19,oL 3 enc_i64 newslice),(76,vL encs_i64 slices),(79,vi ((↑(List.length slices):Int))),(82,vi t27)]:Sta)) q.1 q.2) (fun (q:List Int×Int)=>Inv32 q.1 q.2) (fun (q:List Int×Int)=>mu33 q.1 q.2) (([]),0) [] h0Inv32 ?_
  rintro ⟨newslice,t27⟩ hi
  have h:=hInv32 newslice t27 hi
  refine sD kk [] [] [(85,vB (decide (t27 < (↑(List.length slices):Int))))] obN ?_
  refine qD ?_
  refine cD (t:=28) (b:=decide (t27 < (↑(List.length slices):Int))) (fun hb34=>?_) (fun hb34=>?_)
  ·have h:=h.1 hb34
   refine Sem.skip' (by kernel_rfl) Wk.refl ?_
   show Sem _ _ _ _ _
   refine wkD [85] ?_
   refine qD ?_
   refine bD (id:=3) ?_
   obtain ⟨h35,h⟩:=h
   obtain ⟨h36,h⟩:=h
   refine sD kk [.e (fL enc_i64 (gd slices t27))] [] [(25,vL enc_i64 (gd slices t27))] (obC h35 (obC (idx_ok encs_i64 slices t27 _ rfl h35 h36) obN)) ?_
   obtain ⟨h37,h⟩:=h
   refine rDE kk [] [25] [(19,.own 3 (List.map enc_i64 newslice++List.map enc_i64 (gd slices t27)))] [(19,oL 3 enc_i64 (newslice++gd slices t27))] (obC (show (0:Nat)=(0:Nat)∧List.length (List.map enc_i64 newslice)=List.length (List.map enc_i64 newslice) from ⟨rfl,rfl⟩) (obC (show (List.length (List.map enc_i64 newslice)+List.length (List.map enc_i64 (gd slices t27))) * (8:Nat)≤(2:Nat) ^ (47:Nat) from by simpa only [nm] using h37) (obC (show List.all (List.map enc_i64 (gd slices t27)) (FV.fits (1:Nat))=true from by first | exact fits_i64 _ | exact keysenc_i64 _ | rfl | simp [isByteF,FV.fits,FV.size,FV.cells,FV.one,enc_i64]) obN))) ?_
   show Sem _ _ _ _ _
   refine rD kk [] [] [(82,vi (w64 (t27+1)))] obN ?_
   exact lD ((newslice++gd slices t27),(w64 (t27+1))) [] h
  ·have h:=h.2 hb34
   refine xD (i:=2) ?_
   show Sem _ _ _ _ _
   refine wkD [76,79,82,85] ?_
   refine sD kk [] [19] [(7,oL 3 enc_i64 newslice)] obN ?_
   refine tD ?_
   obtain he0:=h
   subst res
   exact (endD [] (oL 3 enc_i64 newslice) []).1
set_option maxHeartbeats 1000000 in
theorem W_place_Join_int (a:(List Int)) (b:(List Int)) (res:(List Int))
 (h:(∃ r0:List Int,C_slices_Concat__int_int ([a,b]) r0∧List.length r0 < 1099511627776∧(List.length (sortInts r0)=List.length r0)∧List.length (sortInts r0) < 1099511627776∧(res=(compactInts (sortInts r0))))):C_place_Join_int a b res:=by
 unfold C_place_Join_int
 have kk:=cfOk [] 14
 refine fD (x:=bodyOf Try.f64) kk Try.func64 ?_
 refine wkS [1,4] [(1,vL enc_i64 a),(4,vL enc_i64 b)] (by kernel_rfl) ?_
 refine sD kk [] [] [] obN ?_
 obtain ⟨r0,hc0,h⟩:=h
 refine sD kk [.c (oL 3 enc_i64 r0) []] [1,4] [(16,oL 3 enc_i64 r0)] (obC (Eq.mp (by unfold C_slices_Concat__int_int;(try simp only [List.drop_zero,List.take_length]);first | done | simp only [nm,enq]:C_slices_Concat__int_int ([a,b]) r0=CallE Try.prog 79 [.f (FV.sl (List.take (List.length [FV.sl (List.map enc_i64 a),FV.sl (List.map enc_i64 b)]) (List.drop (0:Nat) [FV.sl (List.map enc_i64 a),FV.sl (List.map enc_i64 b)])))] [] (oL 3 enc_i64 r0) []) hc0) obN) ?_
 obtain ⟨h1,h⟩:=h
 obtain ⟨h2,h⟩:=h
 refine sD kk [.l (List.map enc_i64 (sortInts r0))] [] [(16,oL 3 enc_i64 (sortInts r0))] (obC (show (0:Nat)=(0:Nat)∧List.length (List.map enc_i64 r0)=List.length (List.map enc_i64 r0) from ⟨rfl,rfl⟩) (obC (show Prod.fst (sortF,false) (List.map enc_i64 r0)=some (List.map enc_i64 (sortInts r0)) from by first | exact sortF_map enc_i64 (fun _=>rfl) _ h1 | (have:=sortF_map enc_i64 (fun _=>rfl) _ h1;simpa only [nm,enq] using this)) (obC (show List.length (List.map enc_i64 (sortInts r0))=List.length (List.map enc_i64 r0) from by simpa only [nm] using h2) obN))) ?_
 obtain ⟨h3,h⟩:=h
 refine sD kk [.l (List.map enc_i64 (compactInts (sortInts r0)))] [16] [(13,oL 3 enc_i64 (compactInts (sortInts r0)))] (obC (show (0:Nat)=(0:Nat)∧List.length (List.map enc_i64 (sortInts r0))=List.length (List.map enc_i64 (sortInts r0)) from ⟨rfl,rfl⟩) (obC (show Prod.fst (compactF,true) (List.map enc_i64 (sortInts r0))=some (List.map enc_i64 (compactInts (sortInts r0))) from by first | exact compactF_map enc_i64 (fun _=>rfl) _ h3 | (have:=compactF_map enc_i64 (fun _=>rfl) _ h3;simpa only [nm,enq] using this)) obN)) ?_
 refine tD ?_
 obtain he0:=h
 subst res
 exact (endD [(13,0)] (vL enc_i64 (compactInts (sortInts r0))) []).1
set_option maxHeartbeats 1000000 in
theorem W_auto_Read (a:api_Auto) (from0:(List Int)) (c0:Int) (res:(List Int)) (res_1:Int)
 (h:(∃ (Inv66:Int→List (List Int)→Int→Prop) (mu67:Int→List (List Int)→Int→Nat),Inv66 (-1) ([]) 0∧(∀ (rule0_1:Int) (follow_1:List (List Int)) (t13:Int),Inv66 rule0_1 follow_1 t13→(((decide (t13 < (↑(List.length from0):Int)))=true→(∃ J87:Int→List (List Int)→Prop,(∀ (rule0_3:Int) (follow_3:List (List Int)),J87 rule0_3 follow_3→(Inv66 rule0_3 follow_3 (w64 (t13+1))∧mu67 rule0_3 follow_3 (w64 (t13+1)) < mu67 rule0_1 follow_1 t13))∧((0:Int)≤t13)∧t13 < ↑(List.length from0)∧((0:Int)≤gd from0 t13)∧gd from0 t13 < ↑(List.length (api_Auto.Sets a))∧(∃ r0_5:Bool,C_set_Has (gd (api_Auto.Sets a) (gd from0 t13)) c0 r0_5∧(((!r0_5)=true→J87 rule0_1 follow_1)∧((!r0_5)=false→((0:Int)≤gd from0 t13)∧gd from0 t13 < ↑(List.length (api_Auto.Follow a))∧((List.length follow_1+(1:Nat)) * (24:Nat)≤(2:Nat) ^ (47:Nat))∧((0:Int)≤gd from0 t13)∧gd from0 t13 < ↑(List.length (api_Auto.Ends a))∧((gd (api_Auto.Ends a) (gd from0 t13))=true→((rule0_1 == (-1:Int))=false→((0:Int)≤gd from0 t13)))∧((gd (api_Auto.Ends a) (gd from0 t13))=true→((rule0_1 == (-1:Int))=false→gd from0 t13 < ↑(List.length (api_Auto.Owner a))))∧(((gd (api_Auto.Ends a) (gd from0 t13) && (rule0_1 == (-1:Int) || decide (gd (api_Auto.Owner a) (gd from0 t13) < rule0_1)))=true→((0:Int)≤gd from0 t13)∧gd from0 t13 < ↑(List.length (api_Auto.Owner a))∧J87 (gd (api_Auto.Owner a) (gd from0 t13)) (follow_1++[gd (api_Auto.Follow a) (gd from0 t13)]))∧((gd (api_Auto.Ends a) (gd from0 t13) && (rule0_1 == (-1:Int) || decide (gd (api_Auto.Owner a) (gd from0 t13) < rule0_1)))=false→J87 rule0_1 (follow_1++[gd (api_Auto.Follow a) (gd from0 t13)]))))))))∧((decide (t13 < (↑(List.length from0):Int)))=false→(∃ r0_6:List Int,C_slices_Concat__int_int follow_1 r0_6∧(∃ r0_7:List Int,C_place_Join_int r0_6 ([]) r0_7∧(res=r0_7∧res_1=rule0_1)))))))):C_auto_Read a from0 c0 res res_1:=by
 unfold C_auto_Read
 have kk:=cfOk [60] 61
 refine fD (x:=bodyOf Try.f50) kk Try.func50 ?_
 refine wkS [1,4,7] [(1,av_api_Auto a),(4,vL enc_i64 from0),(7,vi c0)] (by kernel_rfl) ?_
 refine sD kk [] [1] [(10,.ptr 20 0),(20,av_api_Auto a)] obN ?_
 refine sD kk [] [] [(22,vi (-1))] obN ?_
 refine sDE kk [] [] [(25,.own 30 ([]))] [(25,oL 30 encs_i64 ([]))] obN ?_
 refine qD ?_
 refine sDE kk [] [4] [(34,vL enc_i64 from0),(37,vi ((↑(List.length (List.map enc_i64 from0)):Int))),(40,vi 0)] [(34,vL enc_i64 from0),(37,vi ((↑(List.length from0):Int))),(40,vi 0)] obN ?_
 refine bD (id:=0) ?_
 obtain ⟨Inv66,mu67,h0Inv66,hInv66⟩:=h
 refine loD (fun (q:Int×List (List Int)×Int)=>(fun (rule0_1:Int) (follow_1:List (List Int)) (t13:Int)=>([(7,vi c0),(10,.ptr 20 0),(20,av_api_Auto a),(22,vi rule0_1),(25,oL 30 encs_i64 follow_1),(34,vL enc_i64 from0),(37,vi ((↑(List.length from0):Int))),(40,vi t13)]:Sta)) q.1 q.2.1 q.2.2) (fun (q:Int×List (List Int)×Int)=>Inv66 q.1 q.2.1 q.2.2) (fun (q:Int×List (List Int)×Int)=>mu67 q.1 q.2.1 q.2.2) ((-1),([]),0) [] h0Inv66 ?_
 rintro ⟨rule0_1,follow_1,t13⟩ hi
 have h:=hInv66 rule0_1 follow_1 t13 hi
 refine sD kk [] [] [(43,vB (decide (t13 < (↑(List.length from0):Int))))] obN ?_
 refine qD ?_
 refine cD (t:=14) (b:=decide (t13 < (↑(List.length from0):Int))) (fun hb68=>?_) (fun hb68=>?_)
 ·have h:=h.1 hb68
  refine Sem.skip' (by kernel_rfl) Wk.refl ?_
  show Sem _ _ _ _ _
  refine wkD [43] ?_
  obtain ⟨J87,hJ87,h⟩:=h
  refine sjD (fun (q:Int×List (List Int))=>J87 q.1 q.2) (fun (q:Int×List (List Int))=>(fun (rule0_3:Int) (follow_3:List (List Int))=>([(7,vi c0),(10,.ptr 20 0),(20,av_api_Auto a),(22,vi rule0_3),(25,oL 30 encs_i64 follow_3),(34,vL enc_i64 from0),(37,vi ((↑(List.length from0):Int))),(40,vi t13)]:Sta)) q.1 q.2) ?_ ?_
  ·rintro ⟨rule0_3,follow_3⟩ hj
   have h:=hJ87 rule0_3 follow_3 hj
   refine rD kk [] [] [(40,vi (w64 (t13+1)))] obN ?_
   exact lD (rule0_3,follow_3,(w64 (t13+1))) [] h
  ·refine bD (id:=1) ?_
   obtain ⟨h88,h⟩:=h
   obtain ⟨h89,h⟩:=h
   refine sD kk [.e (fi (gd from0 t13))] [] [(31,vi (gd from0 t13))] (obC h88 (obC (idx_ok enc_i64 from0 t13 _ rfl h88 h89) obN)) ?_
   refine qD ?_
   obtain ⟨h90,h⟩:=h
   obtain ⟨h91,h⟩:=h
   obtain ⟨r0_5,hc92,h⟩:=h
   refine sD kk [.e (fv_arr4_uint64 (gd (api_Auto.Sets a) (gd from0 t13))),.c (vB r0_5) []] [] [(73,vB (!r0_5))] (obC h90 (obC (idx_ok enc_arr4_uint64 (api_Auto.Sets a) (gd from0 t13) _ (enc_arr4_uint64_eq _) h90 h91) (obC hc92 obN))) ?_
   refine cD (t:=24) (b:=!r0_5) (fun hb93=>?_) (fun hb93=>?_)
   ·have h:=h.1 hb93
    refine xD (i:=1) ?_
    exact jD (rule0_1,follow_1) [] h
   ·have h:=h.2 hb93
    refine Sem.skip' (by kernel_rfl) Wk.refl ?_
    show Sem _ _ _ _ _
    refine wkD [73] ?_
    obtain ⟨h94,h⟩:=h
    obtain ⟨h95,h⟩:=h
    obtain ⟨h96,h⟩:=h
    refine sDE kk [.e (fL enc_i64 (gd (api_Auto.Follow a) (gd from0 t13)))] [] [(25,.own 30 (List.map encs_i64 follow_1++List.take (List.length [FV.sl (List.map enc_i64 (gd (api_Auto.Follow a) (gd from0 t13)))]) (List.drop (0:Nat) [FV.sl (List.map enc_i64 (gd (api_Auto.Follow a) (gd from0 t13)))])))] [(25,oL 30 encs_i64 (follow_1++[gd (api_Auto.Follow a) (gd from0 t13)]))] (obC h94 (obC (idx_ok encs_i64 (api_Auto.Follow a) (gd from0 t13) _ rfl h94 h95) (obC (show (0:Nat)=(0:Nat)∧List.length (List.map encs_i64 follow_1)=List.length (List.map encs_i64 follow_1) from ⟨rfl,rfl⟩) (obC (show (List.length (List.map encs_i64 follow_1)+List.length (List.take (1:Nat) (List.drop (0:Nat) [FV.sl (List.map enc_i64 (gd (api_Auto.Follow a) (gd from0 t13)))]))) * (24:Nat)≤(2:Nat) ^ (47:Nat) from by simpa only [nm] using h96) (obC (show List.all (List.take (1:Nat) (List.drop (0:Nat) [FV.sl (List.map enc_i64 (gd (api_Auto.Follow a) (gd from0 t13)))])) (FV.fits (1:Nat))=true from by first | exact fits_i64 _ | exact keysenc_i64 _ | rfl | simp [isByteF,FV.fits,FV.size,FV.cells,FV.one,enc_i64]) obN))))) ?_
    obtain ⟨h97,h⟩:=h
    obtain ⟨h98,h⟩:=h
    obtain ⟨h101,h102,h⟩:=h
    refine sM [] [(151,vB (gd (api_Auto.Ends a) (gd from0 t13) && (rule0_1 == (-1:Int) || decide (gd (api_Auto.Owner a) (gd from0 t13) < rule0_1))))] ?_ (fun hk0=>?_)
    ·refine cD (t:=50) (b:=gd (api_Auto.Ends a) (gd from0 t13) && (rule0_1 == (-1:Int) || decide (gd (api_Auto.Owner a) (gd from0 t13) < rule0_1))) (fun hb103=>?_) (fun hb103=>?_)
     ·have h:=h.1 hb103
      obtain ⟨h104,h⟩:=h
      obtain ⟨h105,h⟩:=h
      refine rD kk [.e (fi (gd (api_Auto.Owner a) (gd from0 t13)))] [31,151] [(22,vi (gd (api_Auto.Owner a) (gd from0 t13)))] (obC h104 (obC (idx_ok enc_i64 (api_Auto.Owner a) (gd from0 t13) _ rfl h104 h105) obN)) ?_
      exact jD ((gd (api_Auto.Owner a) (gd from0 t13)),(follow_1++[gd (api_Auto.Follow a) (gd from0 t13)])) [] h
     ·have h:=h.2 hb103
      refine Sem.skip' (by kernel_rfl) Wk.refl ?_
      exact jD (rule0_1,(follow_1++[gd (api_Auto.Follow a) (gd from0 t13)])) [] h
    ·rcases Bool.eq_false_or_eq_true (gd (api_Auto.Ends a) (gd from0 t13)) with hb99 | hb99
     ·rcases Bool.eq_false_or_eq_true (rule0_1 == (-1:Int)) with hb100 | hb100
      ·refine sD kk [.e (fB (gd (api_Auto.Ends a) (gd from0 t13))),bT,bT,bT,bF,bF,bF,bF,bF,bF,bF,bT,bT,bT] [] [(151,vB true)] (obC h97 (obC (idx_ok enc_bool (api_Auto.Ends a) (gd from0 t13) _ rfl h97 h98) (obC (gtt hb99) (obC (gtt hb99) (obC (gtt hb99) (obC (gff hb100) (obC (gff hb100) (obC (gff hb100) (obC (gff hb100) (obC (gff hb100) (obC (gff hb100) (obC (gff hb100) (obC (gtt hb99) (obC hb100 (obC hb99 obN))))))))))))))) ?_
       exact Sem.cast (by try rw [hb99];try rw [hb100];kernel_rfl) hk0
      ·refine sD kk [.e (fB (gd (api_Auto.Ends a) (gd from0 t13))),bT,bT,bT,bT,bT,bT,bT,.e (fi (gd (api_Auto.Owner a) (gd from0 t13))),bT,bT,bT,bT,bF,bT] [] [(151,vB (decide (gd (api_Auto.Owner a) (gd from0 t13) < rule0_1)))] (obC h97 (obC (idx_ok enc_bool (api_Auto.Ends a) (gd from0 t13) _ rfl h97 h98) (obC (gtt hb99) (obC (gtt hb99) (obC (gtt hb99) (obC (gft hb100) (obC (gft hb100) (obC (gft hb100) (obC (gft hb100) (obC ((h101 hb99) hb100) (obC (idx_ok enc_i64 (api_Auto.Owner a) (gd from0 t13) _ rfl ((h101 hb99) hb100) ((h102 hb99) hb100)) (obC (gft hb100) (obC (gft hb100) (obC (gft hb100) (obC (gtt hb99) (obC hb100 (obC hb99 obN))))))))))))))))) ?_
       exact Sem.cast (by try rw [hb99];try rw [hb100];kernel_rfl) hk0
     ·refine sD kk [.e (fB (gd (api_Auto.Ends a) (gd from0 t13))),bF,bF,bF,bF,bF] [] [(151,vB false)] (obC h97 (obC (idx_ok enc_bool (api_Auto.Ends a) (gd from0 t13) _ rfl h97 h98) (obC (gtf hb99) (obC (gtf hb99) (obC (gtf hb99) (obC (gtf hb99) (obC hb99 obN))))))) ?_
      exact Sem.cast (by try rw [hb99];kernel_rfl) hk0
 ·have h:=h.2 hb68
  refine xD (i:=0) ?_
  show Sem _ _ _ _ _
  refine wkD [7,10,20,34,37,40,43] ?_
  obtain ⟨r0_6,hc106,h⟩:=h
  obtain ⟨r0_7,hc107,h⟩:=h
  refine sD kk [.c (oL 3 enc_i64 r0_6) [],.c (vL enc_i64 r0_7) []] [25] [(19,vL enc_i64 r0_7)] (obC (Eq.mp (by unfold C_slices_Concat__int_int;(try simp only [List.drop_zero,List.take_length]);first | done | simp only [nm,enq]:C_slices_Concat__int_int follow_1 r0_6=CallE Try.prog 79 [.f (FV.sl (List.take (List.length (List.map encs_i64 follow_1)) (List.drop (0:Nat) (List.map encs_i64 follow_1))))] [] (oL 3 enc_i64 r0_6) []) hc106) (obC (Eq.mp (by unfold C_place_Join_int;(try simp only [List.drop_zero,List.take_length]);first | done | simp only [nm,enq]:C_place_Join_int r0_6 ([]) r0_7=CallE Try.prog 64 [.f (FV.sl (List.take (List.length (List.map enc_i64 r0_6)) (List.drop (0:Nat) (List.map enc_i64 r0_6)))),.f (FV.sl [])] [] (vL enc_i64 r0_7) []) hc107) obN)) ?_
  refine tD ?_
  obtain ⟨he0,he1⟩:=h
  subst res res_1
  exact (endD [] (.tup [vL enc_i64 r0_7,vi rule0_1]) []).1
set_option maxHeartbeats 1000000 in
theorem W_auto_Run_L1 (p:Int) (v:api_Auto) (res:Bool) (fin:api_Auto)
 (h:(res=(decide (p < (0:Int)) || decide (p≥(↑(List.length (api_Auto.Sets v)):Int)))∧fin=v)):C_auto_Run_L1 p v res fin:=by
 unfold C_auto_Run_L1
 have kk:=cfOk [] 13
 refine fD (x:=bodyOf Try.f49) kk Try.func49 ?_
 refine wkS [1,3,4] [(1,vi p),(3,av_api_Auto v),(4,.ptr 3 0)] (by kernel_rfl) ?_
 refine sD kk [] [] [] obN ?_
 refine sM [1,4] [(10,vB (decide (p < (0:Int)) || decide (p≥(↑(List.length (api_Auto.Sets v)):Int))))] ?_ (fun hk0=>?_)
 ·refine tD ?_
  obtain ⟨he0,he1⟩:=h
  subst res fin
  exact (endD [] (vB (decide (p < (0:Int)) || decide (p≥(↑(List.length (api_Auto.Sets v)):Int)))) [av_api_Auto v]).1
 ·rcases Bool.eq_false_or_eq_true (decide (p < (0:Int))) with hb0 | hb0
  ·refine sD kk [bF,bF,bF,bF,bF,bT] [1,4] [(10,vB true)] (obC (gff hb0) (obC (gff hb0) (obC (gff hb0) (obC (gff hb0) (obC (gff hb0) (obC hb0 obN)))))) ?_
   exact Sem.cast (by try rw [hb0];kernel_rfl) hk0
  ·refine sDE kk [bT,bT,bT,bT,bT,bF] [1,4] [(10,vB (decide (p≥(↑(List.length (List.map enc_arr4_uint64 (api_Auto.Sets v))):Int))))] [(10,vB (decide (p≥(↑(List.length (api_Auto.Sets v)):Int))))] (obC (gft hb0) (obC (gft hb0) (obC (gft hb0) (obC (gft hb0) (obC (gft hb0) (obC hb0 obN)))))) ?_
   exact Sem.cast (by try rw [hb0];kernel_rfl) hk0
set_option maxHeartbeats 1000000 in
theorem W_slices_IndexFunc__int_int_at_auto_Run_L1 (s0:(List Int)) (cap:api_Auto) (res:Int) (fin:api_Auto)
 (h:(∃ (Inv9:List arr4_uint64→List Int→List (List Int)→List Bool→List (List Int)→Int→Prop) (mu10:List arr4_uint64→List Int→List (List Int)→List Bool→List (List Int)→Int→Nat),Inv9 (api_Auto.Sets cap) (api_Auto.Owner cap) (api_Auto.Follow cap) (api_Auto.Ends cap) (api_Auto.Starts cap) 0∧(∀ (o0_Sets:List arr4_uint64) (o0_Owner:List Int) (o0_Follow:List (List Int)) (o0_Ends:List Bool) (o0_Starts:List (List Int)) (t8:Int),Inv9 o0_Sets o0_Owner o0_Follow o0_Ends o0_Starts t8→(((decide (t8 < (↑(List.length s0):Int)))=true→((0:Int)≤t8)∧t8 < ↑(List.length s0)∧(∃ r0_2:Bool,∃ o_2:api_Auto,C_auto_Run_L1 (gd s0 t8) ({ Sets:=o0_Sets,Owner:=o0_Owner,Follow:=o0_Follow,Ends:=o0_Ends,Starts:=o0_Starts }) r0_2 o_2∧(((r0_2)=true→(res=t8∧fin=o_2))∧((r0_2)=false→(Inv9 (api_Auto.Sets o_2) (api_Auto.Owner o_2) (api_Auto.Follow o_2) (api_Auto.Ends o_2) (api_Auto.Starts o_2) (w64 (t8+1))∧mu10 (api_Auto.Sets o_2) (api_Auto.Owner o_2) (api_Auto.Follow o_2) (api_Auto.Ends o_2) (api_Auto.Starts o_2) (w64 (t8+1)) < mu10 o0_Sets o0_Owner o0_Follow o0_Ends o0_Starts t8)))))∧((decide (t8 < (↑(List.length s0):Int)))=false→(res=(-1)∧fin=({ Sets:=o0_Sets,Owner:=o0_Owner,Follow:=o0_Follow,Ends:=o0_Ends,Starts:=o0_Starts }))))))):C_slices_IndexFunc__int_int_at_auto_Run_L1 s0 cap res fin:=by
 unfold C_slices_IndexFunc__int_int_at_auto_Run_L1
 have kk:=cfOk [17] 19
 refine fD (x:=bodyOf Try.f76) kk Try.func76 ?_
 refine wkS [1,3,4] [(1,vL enc_i64 s0),(3,av_api_Auto cap),(4,.clo 49 [.ptr 3 0])] (by kernel_rfl) ?_
 refine sD kk [] [] [] obN ?_
 refine qD ?_
 refine sDE kk [] [] [(22,vi ((↑(List.length (List.map enc_i64 s0)):Int))),(25,vi 0)] [(22,vi ((↑(List.length s0):Int))),(25,vi 0)] obN ?_
 refine bD (id:=0) ?_
 obtain ⟨Inv9,mu10,h0Inv9,hInv9⟩:=h
 refine loD (fun (q:List arr4_uint64×List Int×List (List Int)×List Bool×List (List Int)×Int)=>(fun (o0_Sets:List arr4_uint64) (o0_Owner:List Int) (o0_Follow:List (List Int)) (o0_Ends:List Bool) (o0_Starts:List (List Int)) (t8:Int)=>([(1,vL enc_i64 s0),(3,.agg [vL enc_arr4_uint64 o0_Sets,vL enc_i64 o0_Owner,vL encs_i64 o0_Follow,vL enc_bool o0_Ends,vL encs_i64 o0_Starts]),(4,.clo 49 [.ptr 3 0]),(22,vi ((↑(List.length s0):Int))),(25,vi t8)]:Sta)) q.1 q.2.1 q.2.2.1 q.2.2.2.1 q.2.2.2.2.1 q.2.2.2.2.2) (fun (q:List arr4_uint64×List Int×List (List Int)×List Bool×List (List Int)×Int)=>Inv9 q.1 q.2.1 q.2.2.1 q.2.2.2.1 q.2.2.2.2.1 q.2.2.2.2.2) (fun (q:List arr4_uint64×List Int×List (List Int)×List Bool×List (List Int)×Int)=>mu10 q.1 q.2.1 q.2.2.1 q.2.2.2.1 q.2.2.2.2.1 q.2.2.2.2.2) ((api_Auto.Sets cap),(api_Auto.Owner cap),(api_Auto.Follow cap),(api_Auto.Ends cap),(api_Auto.Starts cap),0) [] h0Inv9 ?_
 rintro ⟨o0_Sets,o0_Owner,o0_Follow,o0_Ends,o0_Starts,t8⟩ hi
 have h:=hInv9 o0_Sets o0_Owner o0_Follow o0_Ends o0_Starts t8 hi
 refine sD kk [] [] [(28,vB (decide (t8 < (↑(List.length s0):Int))))] obN ?_
 refine qD ?_
 refine cD (t:=9) (b:=decide (t8 < (↑(List.length s0):Int))) (fun hb11=>?_) (fun hb11=>?_)
 ·have h:=h.1 hb11
  refine Sem.skip' (by kernel_rfl) Wk.refl ?_
  show Sem _ _ _ _ _
  refine wkD [28] ?_
  refine qD ?_
  refine bD (id:=1) ?_
  refine sD kk [] [] [(16,vi t8)] obN ?_
  obtain ⟨h12,h⟩:=h
  obtain ⟨h13,h⟩:=h
  obtain ⟨r0_2,o_2,hc14,h⟩:=h
  refine sD kk [.e (fi (gd s0 t8)),.c (vB r0_2) [av_api_Auto o_2]] [] [(3,av_api_Auto o_2),(49,vB r0_2)] (obC h12 (obC (idx_ok enc_i64 s0 t8 _ rfl h12 h13) (obC hc14 obN))) ?_
  refine cD (t:=16) (b:=r0_2) (fun hb15=>?_) (fun hb15=>?_)
  ·have h:=h.1 hb15
   refine sD kk [] [1,4,16,22,25,49] [(13,vi t8)] obN ?_
   refine tD ?_
   obtain ⟨he0,he1⟩:=h
   subst res fin
   exact (endD [] (vi t8) [av_api_Auto o_2]).1
  ·have h:=h.2 hb15
   refine Sem.skip' (by kernel_rfl) Wk.refl ?_
   show Sem _ _ _ _ _
   refine wkD [16,49] ?_
   refine rD kk [] [] [(25,vi (w64 (t8+1)))] obN ?_
   exact lD ((api_Auto.Sets o_2),(api_Auto.Owner o_2),(api_Auto.Follow o_2),(api_Auto.Ends o_2),(api_Auto.Starts o_2),(w64 (t8+1))) [] h
 ·have h:=h.2 hb11
  refine xD (i:=0) ?_
  show Sem _ _ _ _ _
  refine wkD [1,4,22,25,28] ?_
  refine sD kk [] [] [(13,vi (-1))] obN ?_
  refine tD ?_
  obtain ⟨he0,he1⟩:=h
  subst res fin
  exact (endD [] (vi (-1)) [.agg [vL enc_arr4_uint64 o0_Sets,vL enc_i64 o0_Owner,vL encs_i64 o0_Follow,vL enc_bool o0_Ends,vL encs_i64 o0_Starts]]).1
set_option maxHeartbeats 1000000 in
theorem W_slices_ContainsFunc__int_int_at_auto_Run_L1 (s0:(List Int)) (cap:api_Auto) (res:Bool) (fin:api_Auto)
 (h:(∃ r0:Int,∃ o:api_Auto,C_slices_IndexFunc__int_int_at_auto_Run_L1 s0 cap r0 o∧(res=(decide (r0≥(0:Int)))∧fin=o))):C_slices_ContainsFunc__int_int_at_auto_Run_L1 s0 cap res fin:=by
 unfold C_slices_ContainsFunc__int_int_at_auto_Run_L1
 have kk:=cfOk [] 9
 refine fD (x:=bodyOf Try.f45) kk Try.func45 ?_
 refine wkS [1,3,4] [(1,vL enc_i64 s0),(3,av_api_Auto cap),(4,.clo 49 [.ptr 3 0])] (by kernel_rfl) ?_
 refine sD kk [] [] [] obN ?_
 obtain ⟨r0,o,hc0,h⟩:=h
 refine sD kk [.c (vi r0) [av_api_Auto o]] [1,4] [(3,av_api_Auto o),(13,vB (decide (r0≥(0:Int))))] (obC hc0 obN) ?_
 refine tD ?_
 obtain ⟨he0,he1⟩:=h
 subst res fin
 exact (endD [] (vB (decide (r0≥(0:Int)))) [av_api_Auto o]).1
set_option maxHeartbeats 1000000 in
theorem W_auto_Run (a:api_Auto) (from0:(List Int)) (w0:ByteArray) (res:Int) (res_1:Int)
 (h:(∃ r0:Bool,C_auto_Right a r0∧(((!r0)=true→(res=(-1)∧res_1=0))∧((!r0)=false→(∃ r0_1:Bool,∃ o:api_Auto,C_slices_ContainsFunc__int_int_at_auto_Run_L1 from0 a r0_1 o∧(((r0_1)=true→(res=(-1)∧res_1=0))∧((r0_1)=false→(∃ J29:Int→Int→Prop,(∀ (rule0_4:Int) (most_4:Int),J29 rule0_4 most_4→(res=rule0_4∧res_1=most_4))∧(∃ (Inv45:List Int→Int→Int→Int→Prop) (mu46:List Int→Int→Int→Int→Nat),Inv45 from0 (-1) 0 0∧(∀ (from0_2:List Int) (rule0_6:Int) (most_6:Int) (t24_1:Int),Inv45 from0_2 rule0_6 most_6 t24_1→(((decide (t24_1 < (↑(ByteArray.size w0):Int)))=true→((0:Int)≤t24_1)∧t24_1 < ↑(ByteArray.size w0)∧(∃ r0_12:List Int,∃ r0_13:Int,C_auto_Read o from0_2 (w64 (↑(UInt8.toNat (byteAt w0 t24_1)):Int)) r0_12 r0_13∧(∃ J52:Int→Int→Prop,(∀ (rule0_8:Int) (most_8:Int),J52 rule0_8 most_8→((((↑(List.length r0_12):Int) == 0)=true→J29 rule0_8 most_8)∧(((↑(List.length r0_12):Int) == 0)=false→(Inv45 r0_12 rule0_8 most_8 (w64 (t24_1+1))∧mu46 r0_12 rule0_8 most_8 (w64 (t24_1+1)) < mu46 from0_2 rule0_6 most_6 t24_1))))∧(((r0_13 != (-1:Int))=true→J52 r0_13 (w64 (t24_1+1)))∧((r0_13 != (-1:Int))=false→J52 rule0_6 most_6)))))∧((decide (t24_1 < (↑(ByteArray.size w0):Int)))=false→J29 rule0_6 most_6)))))))))))):C_auto_Run a from0 w0 res res_1:=by
 unfold C_auto_Run
 have kk:=cfOk [21,39,47,48] 49
 refine fD (x:=bodyOf Try.f23) kk Try.func23 ?_
 refine wkS [1,4,7] [(1,av_api_Auto a),(4,vL enc_i64 from0),(7,vS w0)] (by kernel_rfl) ?_
 refine sD kk [] [1] [(10,.ptr 20 0),(20,av_api_Auto a),(22,vi 0)] obN ?_
 refine sD kk [] [] [(19,vi (-1))] obN ?_
 refine sD kk [] [] [(25,.clo 49 [.ptr 20 0])] obN ?_
 refine qD ?_
 obtain ⟨r0,hc0,h⟩:=h
 rcases Bool.eq_false_or_eq_true (!r0) with hb1 | hb1
 ·have h:=h.1 hb1
  refine sD kk [.c (vB r0) [],bF,bF,bF,bT] [25] [(61,vB true)] (obC hc0 (obC (gff hb1) (obC (gff hb1) (obC (gff hb1) (obC hb1 obN))))) ?_
  refine cD (t:=20) (b:=true) (fun hb55=>?_) (fun hb55=>?_)
  ·refine sD kk [] [4,7,10,20,61] [] obN ?_
   refine tD ?_
   obtain ⟨he0,he1⟩:=h
   subst res res_1
   exact (endD [] (.tup [vi (-1),vi 0]) []).1
  ·cases hb55
 ·have h:=h.2 hb1
  obtain ⟨r0_1,o,hc2,h⟩:=h
  refine sD kk [.c (vB r0) [],bT,bT,bT,.c (vB r0_1) [av_api_Auto o],bF] [25] [(20,av_api_Auto o),(61,vB r0_1)] (obC hc0 (obC (gft hb1) (obC (gft hb1) (obC (gft hb1) (obC hc2 (obC hb1 obN)))))) ?_
  refine cD (t:=20) (b:=r0_1) (fun hb3=>?_) (fun hb3=>?_)
  ·have h:=h.1 hb3
   refine sD kk [] [4,7,10,20,61] [] obN ?_
   refine tD ?_
   obtain ⟨he0,he1⟩:=h
   subst res res_1
   exact (endD [] (.tup [vi (-1),vi 0]) []).1
  ·have h:=h.2 hb3
   refine Sem.skip' (by kernel_rfl) Wk.refl ?_
   show Sem _ _ _ _ _
   refine wkD [61] ?_
   obtain ⟨J29,hJ29,h⟩:=h
   refine sjD (fun (q:Int×Int)=>J29 q.1 q.2) (fun (q:Int×Int)=>(fun (rule0_4:Int) (most_4:Int)=>([(19,vi rule0_4),(22,vi most_4)]:Sta)) q.1 q.2) ?_ ?_
   ·rintro ⟨rule0_4,most_4⟩ hj
    have h:=hJ29 rule0_4 most_4 hj
    refine sD kk [] [] [] obN ?_
    refine tD ?_
    obtain ⟨he0,he1⟩:=h
    subst res res_1
    exact (endD [] (.tup [vi rule0_4,vi most_4]) []).1
   ·refine sD kk [] [] [(70,vi ((↑(ByteArray.size w0):Int))),(73,vi 0)] obN ?_
    refine bD (id:=0) ?_
    obtain ⟨Inv45,mu46,h0Inv45,hInv45⟩:=h
    refine loD (fun (q:List Int×Int×Int×Int)=>(fun (from0_2:List Int) (rule0_6:Int) (most_6:Int) (t24_1:Int)=>([(4,vL enc_i64 from0_2),(7,vS w0),(10,.ptr 20 0),(19,vi rule0_6),(20,av_api_Auto o),(22,vi most_6),(70,vi ((↑(ByteArray.size w0):Int))),(73,vi t24_1)]:Sta)) q.1 q.2.1 q.2.2.1 q.2.2.2) (fun (q:List Int×Int×Int×Int)=>Inv45 q.1 q.2.1 q.2.2.1 q.2.2.2) (fun (q:List Int×Int×Int×Int)=>mu46 q.1 q.2.1 q.2.2.1 q.2.2.2) (from0,(-1),0,0) [] h0Inv45 ?_
    rintro ⟨from0_2,rule0_6,most_6,t24_1⟩ hi
    have h:=hInv45 from0_2 rule0_6 most_6 t24_1 hi
    refine sD kk [] [] [(76,vB (decide (t24_1 < (↑(ByteArray.size w0):Int))))] obN ?_
    refine qD ?_
    refine cD (t:=25) (b:=decide (t24_1 < (↑(ByteArray.size w0):Int))) (fun hb47=>?_) (fun hb47=>?_)
    ·have h:=h.1 hb47
     refine Sem.skip' (by kernel_rfl) Wk.refl ?_
     show Sem _ _ _ _ _
     refine wkD [76] ?_
     refine qD ?_
     refine bD (id:=1) ?_
     refine sD kk [] [] [(28,vi t24_1)] obN ?_
     obtain ⟨h48,h⟩:=h
     obtain ⟨h49,h⟩:=h
     obtain ⟨r0_12,r0_13,hc50,h⟩:=h
     refine sD kk [.y (byteAt w0 t24_1),.c (.tup [vL enc_i64 r0_12,vi r0_13]) []] [4] [(31,vL enc_i64 r0_12),(34,vi r0_13)] (obC h48 (obC (byte_ok w0 t24_1 h48 h49) (obC hc50 obN))) ?_
     obtain ⟨J52,hJ52,h⟩:=h
     refine sjD (fun (q:Int×Int)=>J52 q.1 q.2) (fun (q:Int×Int)=>(fun (rule0_8:Int) (most_8:Int)=>([(7,vS w0),(10,.ptr 20 0),(19,vi rule0_8),(20,av_api_Auto o),(22,vi most_8),(31,vL enc_i64 r0_12),(70,vi ((↑(ByteArray.size w0):Int))),(73,vi t24_1)]:Sta)) q.1 q.2) ?_ ?_
     ·rintro ⟨rule0_8,most_8⟩ hj
      have h:=hJ52 rule0_8 most_8 hj
      refine sD kk [] [31] [(4,vL enc_i64 r0_12)] obN ?_
      refine sDE kk [] [] [(136,vB ((↑(List.length (List.map enc_i64 r0_12)):Int) == 0))] [(136,vB ((↑(List.length r0_12):Int) == 0))] obN ?_
      refine cD (t:=45) (b:=(↑(List.length r0_12):Int) == 0) (fun hb53=>?_) (fun hb53=>?_)
      ·have h:=h.1 hb53
       refine xD (i:=0) ?_
       exact jD (rule0_8,most_8) [] h
      ·have h:=h.2 hb53
       refine Sem.skip' (by kernel_rfl) Wk.refl ?_
       show Sem _ _ _ _ _
       refine wkD [136] ?_
       refine rD kk [] [] [(73,vi (w64 (t24_1+1)))] obN ?_
       exact lD (r0_12,rule0_8,most_8,(w64 (t24_1+1))) [] h
     ·refine sD kk [] [] [(115,vB (r0_13 != (-1:Int)))] obN ?_
      refine cD (t:=38) (b:=r0_13 != (-1:Int)) (fun hb54=>?_) (fun hb54=>?_)
      ·have h:=h.1 hb54
       refine rD kk [] [28,34,115] [(19,vi r0_13),(22,vi (w64 (t24_1+1)))] obN ?_
       exact jD (r0_13,(w64 (t24_1+1))) [] h
      ·have h:=h.2 hb54
       refine Sem.skip' (by kernel_rfl) Wk.refl ?_
       exact jD (rule0_6,most_6) [] h
    ·have h:=h.2 hb47
     refine xD (i:=0) ?_
     exact jD (rule0_6,most_6) [] h
set_option maxHeartbeats 1000000 in
theorem W_heckleref01_Has (s0:arr4_uint64) (b:Int) (res:Bool)
 (h:(((decide (b≥(0:Int)))=true→(((decide (b < (256:Int)))=true→((w64 (Int.tdiv b (64:Int))=0∨w64 (Int.tdiv b (64:Int))=1∨w64 (Int.tdiv b (64:Int))=2∨w64 (Int.tdiv b (64:Int))=3)∧((decide (w64 (Int.tdiv b (64:Int))=(0:Int)))=true→((decide (b≥(0:Int)))=true→((decide (b < (256:Int)))=true→((decide (w64 (Int.tdiv b (64:Int))=(0:Int)))=true→((0:Int)≤Int.tmod b (64:Int)))))∧(res=(IntKind.wrap IntKind.u64 (↑(BitVec.toNat (BitVec.ofInt (IntKind.bits IntKind.u64) (Int.fdiv (arr4_uint64.e0 s0) ((2:Int) ^ Min.min (Int.toNat (Int.tmod b (64:Int))) (IntKind.bits IntKind.u64))) &&& BitVec.ofInt (IntKind.bits IntKind.u64) (1:Int))):Int) == 1)))∧((decide (w64 (Int.tdiv b (64:Int))=(1:Int)))=true→((decide (b≥(0:Int)))=true→((decide (b < (256:Int)))=true→((decide (w64 (Int.tdiv b (64:Int))=(1:Int)))=true→((0:Int)≤Int.tmod b (64:Int)))))∧(res=(IntKind.wrap IntKind.u64 (↑(BitVec.toNat (BitVec.ofInt (IntKind.bits IntKind.u64) (Int.fdiv (arr4_uint64.e1 s0) ((2:Int) ^ Min.min (Int.toNat (Int.tmod b (64:Int))) (IntKind.bits IntKind.u64))) &&& BitVec.ofInt (IntKind.bits IntKind.u64) (1:Int))):Int) == 1)))∧((decide (w64 (Int.tdiv b (64:Int))=(2:Int)))=true→((decide (b≥(0:Int)))=true→((decide (b < (256:Int)))=true→((decide (w64 (Int.tdiv b (64:Int))=(2:Int)))=true→((0:Int)≤Int.tmod b (64:Int)))))∧(res=(IntKind.wrap IntKind.u64 (↑(BitVec.toNat (BitVec.ofInt (IntKind.bits IntKind.u64) (Int.fdiv (arr4_uint64.e2 s0) ((2:Int) ^ Min.min (Int.toNat (Int.tmod b (64:Int))) (IntKind.bits IntKind.u64))) &&& BitVec.ofInt (IntKind.bits IntKind.u64) (1:Int))):Int) == 1)))∧((decide (w64 (Int.tdiv b (64:Int))=(3:Int)))=true→((decide (b≥(0:Int)))=true→((decide (b < (256:Int)))=true→((decide (w64 (Int.tdiv b (64:Int))=(3:Int)))=true→((0:Int)≤Int.tmod b (64:Int)))))∧(res=(IntKind.wrap IntKind.u64 (↑(BitVec.toNat (BitVec.ofInt (IntKind.bits IntKind.u64) (Int.fdiv (arr4_uint64.e3 s0) ((2:Int) ^ Min.min (Int.toNat (Int.tmod b (64:Int))) (IntKind.bits IntKind.u64))) &&& BitVec.ofInt (IntKind.bits IntKind.u64) (1:Int))):Int) == 1)))))∧((decide (b < (256:Int)))=false→(res=false))))∧((decide (b≥(0:Int)))=false→(res=false)))):C_heckleref01_Has s0 b res:=by
 unfold C_heckleref01_Has
 have kk:=cfOk [] 22
 refine fD (x:=bodyOf Try.f51) kk Try.func51 ?_
 refine wkS [1,4] [(1,av_arr4_uint64 s0),(4,vi b)] (by kernel_rfl) ?_
 refine sD kk [] [1] [(7,.ptr 14 0),(14,av_arr4_uint64 s0)] obN ?_
 rcases Bool.eq_false_or_eq_true (decide (b≥(0:Int))) with hb0 | hb0
 ·have h:=h.1 hb0
  rcases Bool.eq_false_or_eq_true (decide (b < (256:Int))) with hb1 | hb1
  ·have h:=h.1 hb1
   obtain ⟨hor,h⟩:=h
   rcases hor with hb2 | hb2 | hb2 | hb2
   ·have hb2:=decide_eq_true hb2
    have h:=h.1 hb2
    obtain ⟨h3,h⟩:=h
    refine sD kk [bT,bT,bT,bT,bT,bT,.n 0,bT,bT,bT,bT,bT,bT,bT] [4,7,14] [(13,vB (IntKind.wrap IntKind.u64 (↑(BitVec.toNat (BitVec.ofInt (IntKind.bits IntKind.u64) (Int.fdiv (arr4_uint64.e0 s0) ((2:Int) ^ Min.min (Int.toNat (Int.tmod b (64:Int))) (IntKind.bits IntKind.u64))) &&& BitVec.ofInt (IntKind.bits IntKind.u64) (1:Int))):Int) == 1))] (obC (gtt hb0) (obC (gtt hb0) (obC hb0 (obC (gtt hb1) (obC (gtt hb1) (obC (show (64:Int)≠(0:Int) from by first | decide | rfl | trivial) (obC (gtt hb1) (obC (of_decide_eq_true hb2) (obC (gtt hb1) (obC (gtt hb1) (obC (gtt hb1) (obC (show (64:Int)≠(0:Int) from by first | decide | rfl | trivial) (obC (gtt hb1) (obC (((h3 hb0) hb1) hb2) (obC (gtt hb1) (obC (gtt hb1) (obC hb1 obN))))))))))))))))) ?_
    refine tD ?_
    obtain he0:=h
    subst res
    exact (endD [] (vB (IntKind.wrap IntKind.u64 (↑(BitVec.toNat (BitVec.ofInt (IntKind.bits IntKind.u64) (Int.fdiv (arr4_uint64.e0 s0) ((2:Int) ^ Min.min (Int.toNat (Int.tmod b (64:Int))) (IntKind.bits IntKind.u64))) &&& BitVec.ofInt (IntKind.bits IntKind.u64) (1:Int))):Int) == 1)) []).1
   ·have hb2:=decide_eq_true hb2
    have h:=h.2.1 hb2
    obtain ⟨h4,h⟩:=h
    refine sD kk [bT,bT,bT,bT,bT,bT,.n 1,bT,bT,bT,bT,bT,bT,bT] [4,7,14] [(13,vB (IntKind.wrap IntKind.u64 (↑(BitVec.toNat (BitVec.ofInt (IntKind.bits IntKind.u64) (Int.fdiv (arr4_uint64.e1 s0) ((2:Int) ^ Min.min (Int.toNat (Int.tmod b (64:Int))) (IntKind.bits IntKind.u64))) &&& BitVec.ofInt (IntKind.bits IntKind.u64) (1:Int))):Int) == 1))] (obC (gtt hb0) (obC (gtt hb0) (obC hb0 (obC (gtt hb1) (obC (gtt hb1) (obC (show (64:Int)≠(0:Int) from by first | decide | rfl | trivial) (obC (gtt hb1) (obC (of_decide_eq_true hb2) (obC (gtt hb1) (obC (gtt hb1) (obC (gtt hb1) (obC (show (64:Int)≠(0:Int) from by first | decide | rfl | trivial) (obC (gtt hb1) (obC (((h4 hb0) hb1) hb2) (obC (gtt hb1) (obC (gtt hb1) (obC hb1 obN))))))))))))))))) ?_
    refine tD ?_
    obtain he0:=h
    subst res
    exact (endD [] (vB (IntKind.wrap IntKind.u64 (↑(BitVec.toNat (BitVec.ofInt (IntKind.bits IntKind.u64) (Int.fdiv (arr4_uint64.e1 s0) ((2:Int) ^ Min.min (Int.toNat (Int.tmod b (64:Int))) (IntKind.bits IntKind.u64))) &&& BitVec.ofInt (IntKind.bits IntKind.u64) (1:Int))):Int) == 1)) []).1
   ·have hb2:=decide_eq_true hb2
    have h:=h.2.2.1 hb2
    obtain ⟨h5,h⟩:=h
    refine sD kk [bT,bT,bT,bT,bT,bT,.n 2,bT,bT,bT,bT,bT,bT,bT] [4,7,14] [(13,vB (IntKind.wrap IntKind.u64 (↑(BitVec.toNat (BitVec.ofInt (IntKind.bits IntKind.u64) (Int.fdiv (arr4_uint64.e2 s0) ((2:Int) ^ Min.min (Int.toNat (Int.tmod b (64:Int))) (IntKind.bits IntKind.u64))) &&& BitVec.ofInt (IntKind.bits IntKind.u64) (1:Int))):Int) == 1))] (obC (gtt hb0) (obC (gtt hb0) (obC hb0 (obC (gtt hb1) (obC (gtt hb1) (obC (show (64:Int)≠(0:Int) from by first | decide | rfl | trivial) (obC (gtt hb1) (obC (of_decide_eq_true hb2) (obC (gtt hb1) (obC (gtt hb1) (obC (gtt hb1) (obC (show (64:Int)≠(0:Int) from by first | decide | rfl | trivial) (obC (gtt hb1) (obC (((h5 hb0) hb1) hb2) (obC (gtt hb1) (obC (gtt hb1) (obC hb1 obN))))))))))))))))) ?_
    refine tD ?_
    obtain he0:=h
    subst res
    exact (endD [] (vB (IntKind.wrap IntKind.u64 (↑(BitVec.toNat (BitVec.ofInt (IntKind.bits IntKind.u64) (Int.fdiv (arr4_uint64.e2 s0) ((2:Int) ^ Min.min (Int.toNat (Int.tmod b (64:Int))) (IntKind.bits IntKind.u64))) &&& BitVec.ofInt (IntKind.bits IntKind.u64) (1:Int))):Int) == 1)) []).1
   ·have hb2:=decide_eq_true hb2
    have h:=h.2.2.2 hb2
    obtain ⟨h6,h⟩:=h
    refine sD kk [bT,bT,bT,bT,bT,bT,.n 3,bT,bT,bT,bT,bT,bT,bT] [4,7,14] [(13,vB (IntKind.wrap IntKind.u64 (↑(BitVec.toNat (BitVec.ofInt (IntKind.bits IntKind.u64) (Int.fdiv (arr4_uint64.e3 s0) ((2:Int) ^ Min.min (Int.toNat (Int.tmod b (64:Int))) (IntKind.bits IntKind.u64))) &&& BitVec.ofInt (IntKind.bits IntKind.u64) (1:Int))):Int) == 1))] (obC (gtt hb0) (obC (gtt hb0) (obC hb0 (obC (gtt hb1) (obC (gtt hb1) (obC (show (64:Int)≠(0:Int) from by first | decide | rfl | trivial) (obC (gtt hb1) (obC (of_decide_eq_true hb2) (obC (gtt hb1) (obC (gtt hb1) (obC (gtt hb1) (obC (show (64:Int)≠(0:Int) from by first | decide | rfl | trivial) (obC (gtt hb1) (obC (((h6 hb0) hb1) hb2) (obC (gtt hb1) (obC (gtt hb1) (obC hb1 obN))))))))))))))))) ?_
    refine tD ?_
    obtain he0:=h
    subst res
    exact (endD [] (vB (IntKind.wrap IntKind.u64 (↑(BitVec.toNat (BitVec.ofInt (IntKind.bits IntKind.u64) (Int.fdiv (arr4_uint64.e3 s0) ((2:Int) ^ Min.min (Int.toNat (Int.tmod b (64:Int))) (IntKind.bits IntKind.u64))) &&& BitVec.ofInt (IntKind.bits IntKind.u64) (1:Int))):Int) == 1)) []).1
  ·have h:=h.2 hb1
   refine sD kk [bT,bT,bT,bF,bF,bF,bF,bF,bF,bF,bF,bF,bF] [4,7,14] [(13,vB false)] (obC (gtt hb0) (obC (gtt hb0) (obC hb0 (obC (gtf hb1) (obC (gtf hb1) (obC (gtf hb1) (obC (gtf hb1) (obC (gtf hb1) (obC (gtf hb1) (obC (gtf hb1) (obC (gtf hb1) (obC (gtf hb1) (obC hb1 obN))))))))))))) ?_
   refine tD ?_
   obtain he0:=h
   subst res
   exact (endD [] (vB false) []).1
 ·have h:=h.2 hb0
  refine sD kk [bF,bF,bF,bF,bF,bF,bF,bF,bF,bF,bF,bF,bF] [4,7,14] [(13,vB false)] (obC (gtf hb0) (obC (gtf hb0) (obC hb0 (oF (oF (oF (oF (oF (oF (oF (oF (oF (oF obN))))))))))))) ?_
  refine tD ?_
  obtain he0:=h
  subst res
  exact (endD [] (vB false) []).1
set_option maxHeartbeats 1000000 in
theorem W_heckleref09_Add (a:(List Int)) (b:(List Int)) (res:(List Int))
 (h:(∃ (Inv38:List Int→Int→Int→Prop) (mu39:List Int→Int→Int→Nat),Inv38 ([]) 0 0∧(∀ (out:List Int) (i:Int) (k:Int),Inv38 out i k→(((decide (i < (↑(List.length (List.map enc_i64 a)):Int)) || decide (k < (↑(List.length b):Int)))=true→((k == (↑(List.length (List.map enc_i64 b)):Int))=false→((decide (i < (↑(List.length (List.map enc_i64 a)):Int)))=true→((0:Int)≤i)))∧((k == (↑(List.length (List.map enc_i64 b)):Int))=false→((decide (i < (↑(List.length (List.map enc_i64 a)):Int)))=true→i < ↑(List.length a)))∧((k == (↑(List.length (List.map enc_i64 b)):Int))=false→((decide (i < (↑(List.length (List.map enc_i64 a)):Int)))=true→((0:Int)≤k)))∧((k == (↑(List.length (List.map enc_i64 b)):Int))=false→((decide (i < (↑(List.length (List.map enc_i64 a)):Int)))=true→k < ↑(List.length b)))∧(((k == (↑(List.length (List.map enc_i64 b)):Int) || decide (i < (↑(List.length (List.map enc_i64 a)):Int)) && decide (gd a i < gd b k))=true→((0:Int)≤i)∧i < ↑(List.length a)∧((List.length out+(1:Nat)) * (8:Nat)≤(2:Nat) ^ (47:Nat))∧(Inv38 (out++[gd a i]) (w64 (i+1)) k∧mu39 (out++[gd a i]) (w64 (i+1)) k < mu39 out i k))∧((k == (↑(List.length (List.map enc_i64 b)):Int) || decide (i < (↑(List.length (List.map enc_i64 a)):Int)) && decide (gd a i < gd b k))=false→((i == (↑(List.length (List.map enc_i64 a)):Int))=false→((0:Int)≤k))∧((i == (↑(List.length (List.map enc_i64 a)):Int))=false→k < ↑(List.length b))∧((i == (↑(List.length (List.map enc_i64 a)):Int))=false→((0:Int)≤i))∧((i == (↑(List.length (List.map enc_i64 a)):Int))=false→i < ↑(List.length a))∧(((i == (↑(List.length (List.map enc_i64 a)):Int) || decide (gd b k < gd a i))=true→((0:Int)≤k)∧k < ↑(List.length b)∧((List.length out+(1:Nat)) * (8:Nat)≤(2:Nat) ^ (47:Nat))∧(Inv38 (out++[gd b k]) i (w64 (k+1))∧mu39 (out++[gd b k]) i (w64 (k+1)) < mu39 out i k))∧((i == (↑(List.length (List.map enc_i64 a)):Int) || decide (gd b k < gd a i))=false→((0:Int)≤i)∧i < ↑(List.length a)∧((List.length out+(1:Nat)) * (8:Nat)≤(2:Nat) ^ (47:Nat))∧(Inv38 (out++[gd a i]) (w64 (i+1)) (w64 (k+1))∧mu39 (out++[gd a i]) (w64 (i+1)) (w64 (k+1)) < mu39 out i k))))))∧((decide (i < (↑(List.length (List.map enc_i64 a)):Int)) || decide (k < (↑(List.length b):Int)))=false→(res=out)))))):C_heckleref09_Add a b res:=by
 unfold C_heckleref09_Add
 have kk:=cfOk [85] 86
 refine fD (x:=bodyOf Try.f52) kk Try.func52 ?_
 refine wkS [1,4] [(1,vL enc_i64 a),(4,vL enc_i64 b)] (by kernel_rfl) ?_
 refine sD kk [] [] [] obN ?_
 refine sDE kk [] [] [(16,.own 3 ([]))] [(16,oL 3 enc_i64 ([]))] obN ?_
 refine sD kk [] [] [(19,vi 0),(22,vi 0)] obN ?_
 refine qD ?_
 refine bD (id:=0) ?_
 obtain ⟨Inv38,mu39,h0Inv38,hInv38⟩:=h
 refine loD (fun (q:List Int×Int×Int)=>(fun (out:List Int) (i:Int) (k:Int)=>([(1,vL enc_i64 a),(4,vL enc_i64 b),(16,oL 3 enc_i64 out),(19,vi i),(22,vi k)]:Sta)) q.1 q.2.1 q.2.2) (fun (q:List Int×Int×Int)=>Inv38 q.1 q.2.1 q.2.2) (fun (q:List Int×Int×Int)=>mu39 q.1 q.2.1 q.2.2) (([]),0,0) [] h0Inv38 ?_
 rintro ⟨out,i,k⟩ hi
 have h:=hInv38 out i k hi
 refine qD ?_
 refine sM [] [(52,vB (decide (i < (↑(List.length (List.map enc_i64 a)):Int)) || decide (k < (↑(List.length b):Int))))] ?_ (fun hk0=>?_)
 ·refine cD (t:=17) (b:=decide (i < (↑(List.length (List.map enc_i64 a)):Int)) || decide (k < (↑(List.length b):Int))) (fun hb41=>?_) (fun hb41=>?_)
  ·have h:=h.1 hb41
   refine Sem.skip' (by kernel_rfl) Wk.refl ?_
   show Sem _ _ _ _ _
   refine wkD [52] ?_
   refine bD (id:=1) ?_
   refine bD (id:=2) ?_
   obtain ⟨h44,h45,h46,h47,h⟩:=h
   refine sM [] [(88,vB (k == (↑(List.length (List.map enc_i64 b)):Int) || decide (i < (↑(List.length (List.map enc_i64 a)):Int)) && decide (gd a i < gd b k)))] ?_ (fun hk0=>?_)
   ·refine cD (t:=29) (b:=k == (↑(List.length (List.map enc_i64 b)):Int) || decide (i < (↑(List.length (List.map enc_i64 a)):Int)) && decide (gd a i < gd b k)) (fun hb48=>?_) (fun hb48=>?_)
    ·have h:=h.1 hb48
     obtain ⟨h49,h⟩:=h
     obtain ⟨h50,h⟩:=h
     obtain ⟨h51,h⟩:=h
     refine sDE kk [.e (fi (gd a i))] [88] [(16,.own 3 (List.map enc_i64 out++List.take (List.length [FV.pv (Value.int IntKind.i64 (gd a i))]) (List.drop (0:Nat) [FV.pv (Value.int IntKind.i64 (gd a i))])))] [(16,oL 3 enc_i64 (out++[gd a i]))] (obC h49 (obC (idx_ok enc_i64 a i _ rfl h49 h50) (obC (show (0:Nat)=(0:Nat)∧List.length (List.map enc_i64 out)=List.length (List.map enc_i64 out) from ⟨rfl,rfl⟩) (obC (show (List.length (List.map enc_i64 out)+List.length (List.take (1:Nat) (List.drop (0:Nat) [FV.pv (Value.int IntKind.i64 (gd a i))]))) * (8:Nat)≤(2:Nat) ^ (47:Nat) from by simpa only [nm] using h51) (obC (show List.all (List.take (1:Nat) (List.drop (0:Nat) [FV.pv (Value.int IntKind.i64 (gd a i))])) (FV.fits (1:Nat))=true from by first | exact fits_i64 _ | exact keysenc_i64 _ | rfl | simp [isByteF,FV.fits,FV.size,FV.cells,FV.one,]) obN))))) ?_
     refine rD kk [] [] [(19,vi (w64 (i+1)))] obN ?_
     exact lD ((out++[gd a i]),(w64 (i+1)),k) [] h
    ·have h:=h.2 hb48
     obtain ⟨h53,h54,h55,h56,h⟩:=h
     refine sM [88] [(181,vB (i == (↑(List.length (List.map enc_i64 a)):Int) || decide (gd b k < gd a i)))] ?_ (fun hk0=>?_)
     ·refine cD (t:=60) (b:=i == (↑(List.length (List.map enc_i64 a)):Int) || decide (gd b k < gd a i)) (fun hb57=>?_) (fun hb57=>?_)
      ·have h:=h.1 hb57
       obtain ⟨h58,h⟩:=h
       obtain ⟨h59,h⟩:=h
       obtain ⟨h60,h⟩:=h
       refine sDE kk [.e (fi (gd b k))] [181] [(16,.own 3 (List.map enc_i64 out++List.take (List.length [FV.pv (Value.int IntKind.i64 (gd b k))]) (List.drop (0:Nat) [FV.pv (Value.int IntKind.i64 (gd b k))])))] [(16,oL 3 enc_i64 (out++[gd b k]))] (obC h58 (obC (idx_ok enc_i64 b k _ rfl h58 h59) (obC (show (0:Nat)=(0:Nat)∧List.length (List.map enc_i64 out)=List.length (List.map enc_i64 out) from ⟨rfl,rfl⟩) (obC (show (List.length (List.map enc_i64 out)+List.length (List.take (1:Nat) (List.drop (0:Nat) [FV.pv (Value.int IntKind.i64 (gd b k))]))) * (8:Nat)≤(2:Nat) ^ (47:Nat) from by simpa only [nm] using h60) (obC (show List.all (List.take (1:Nat) (List.drop (0:Nat) [FV.pv (Value.int IntKind.i64 (gd b k))])) (FV.fits (1:Nat))=true from by first | exact fits_i64 _ | exact keysenc_i64 _ | rfl | simp [isByteF,FV.fits,FV.size,FV.cells,FV.one,]) obN))))) ?_
       refine rD kk [] [] [(22,vi (w64 (k+1)))] obN ?_
       exact lD ((out++[gd b k]),i,(w64 (k+1))) [] h
      ·have h:=h.2 hb57
       obtain ⟨h61,h⟩:=h
       obtain ⟨h62,h⟩:=h
       obtain ⟨h63,h⟩:=h
       refine sDE kk [.e (fi (gd a i))] [181] [(16,.own 3 (List.map enc_i64 out++List.take (List.length [FV.pv (Value.int IntKind.i64 (gd a i))]) (List.drop (0:Nat) [FV.pv (Value.int IntKind.i64 (gd a i))])))] [(16,oL 3 enc_i64 (out++[gd a i]))] (obC h61 (obC (idx_ok enc_i64 a i _ rfl h61 h62) (obC (show (0:Nat)=(0:Nat)∧List.length (List.map enc_i64 out)=List.length (List.map enc_i64 out) from ⟨rfl,rfl⟩) (obC (show (List.length (List.map enc_i64 out)+List.length (List.take (1:Nat) (List.drop (0:Nat) [FV.pv (Value.int IntKind.i64 (gd a i))]))) * (8:Nat)≤(2:Nat) ^ (47:Nat) from by simpa only [nm] using h63) (obC (show List.all (List.take (1:Nat) (List.drop (0:Nat) [FV.pv (Value.int IntKind.i64 (gd a i))])) (FV.fits (1:Nat))=true from by first | exact fits_i64 _ | exact keysenc_i64 _ | rfl | simp [isByteF,FV.fits,FV.size,FV.cells,FV.one,]) obN))))) ?_
       refine sD kk [] [] [(19,vi (w64 (i+1)))] obN ?_
       refine rD kk [] [] [(22,vi (w64 (k+1)))] obN ?_
       exact lD ((out++[gd a i]),(w64 (i+1)),(w64 (k+1))) [] h
     ·rcases Bool.eq_false_or_eq_true (i == (↑(List.length (List.map enc_i64 a)):Int)) with hb52 | hb52
      ·refine sD kk [bF,bF,bF,bF,bF,bF,bF,bF,bF,bT] [88] [(181,vB true)] (obC (gff hb52) (obC (gff hb52) (obC (gff hb52) (obC (gff hb52) (obC (gff hb52) (obC (gff hb52) (obC (gff hb52) (obC (gff hb52) (obC (gff hb52) (obC hb52 obN)))))))))) ?_
       exact Sem.cast (by try rw [hb52];kernel_rfl) hk0
      ·refine sD kk [bT,bT,bT,.e (fi (gd b k)),bT,bT,bT,bT,.e (fi (gd a i)),bT,bT,bF] [88] [(181,vB (decide (gd b k < gd a i)))] (obC (gft hb52) (obC (gft hb52) (obC (gft hb52) (obC (h53 hb52) (obC (idx_ok enc_i64 b k _ rfl (h53 hb52) (h54 hb52)) (obC (gft hb52) (obC (gft hb52) (obC (gft hb52) (obC (gft hb52) (obC (h55 hb52) (obC (idx_ok enc_i64 a i _ rfl (h55 hb52) (h56 hb52)) (obC (gft hb52) (obC (gft hb52) (obC hb52 obN)))))))))))))) ?_
       exact Sem.cast (by try rw [hb52];kernel_rfl) hk0
   ·rcases Bool.eq_false_or_eq_true (k == (↑(List.length (List.map enc_i64 b)):Int)) with hb42 | hb42
    ·refine sD kk [bF,bF,bF,bF,bF,bF,bT] [] [(88,vB true)] (obC (gff hb42) (obC (gff hb42) (obC (gff hb42) (obC (gff hb42) (obC (gff hb42) (obC (gff hb42) (obC hb42 obN))))))) ?_
     exact Sem.cast (by try rw [hb42];kernel_rfl) hk0
    ·rcases Bool.eq_false_or_eq_true (decide (i < (↑(List.length (List.map enc_i64 a)):Int))) with hb43 | hb43
     ·refine sD kk [bT,bT,bT,bT,bT,bT,bT,bT,.e (fi (gd a i)),bT,bT,bT,bT,.e (fi (gd b k)),bT,bT,bT,bT,bF] [] [(88,vB (decide (gd a i < gd b k)))] (obC (gft hb42) (obC (gft hb42) (obC (gft hb42) (obC (gft hb42) (obC (gft hb42) (obC (gtt hb43) (obC (gtt hb43) (obC (gtt hb43) (obC ((h44 hb42) hb43) (obC (idx_ok enc_i64 a i _ rfl ((h44 hb42) hb43) ((h45 hb42) hb43)) (obC (gtt hb43) (obC (gtt hb43) (obC (gtt hb43) (obC (gtt hb43) (obC ((h46 hb42) hb43) (obC (idx_ok enc_i64 b k _ rfl ((h46 hb42) hb43) ((h47 hb42) hb43)) (obC (gtt hb43) (obC (gtt hb43) (obC (gft hb42) (obC hb43 (obC hb42 obN))))))))))))))))))))) ?_
      exact Sem.cast (by try rw [hb42];try rw [hb43];kernel_rfl) hk0
     ·refine sD kk [bT,bT,bT,bT,bT,bF,bF,bF,bF,bF,bF,bF,bF,bF,bT,bF,bF] [] [(88,vB false)] (obC (gft hb42) (obC (gft hb42) (obC (gft hb42) (obC (gft hb42) (obC (gft hb42) (obC (gtf hb43) (obC (gtf hb43) (obC (gtf hb43) (obC (gtf hb43) (obC (gtf hb43) (obC (gtf hb43) (obC (gtf hb43) (obC (gtf hb43) (obC (gtf hb43) (obC (gft hb42) (obC hb43 (obC hb42 obN))))))))))))))))) ?_
      exact Sem.cast (by try rw [hb42];try rw [hb43];kernel_rfl) hk0
  ·have h:=h.2 hb41
   refine xD (i:=0) ?_
   show Sem _ _ _ _ _
   refine wkD [1,4,19,22,52] ?_
   refine sD kk [] [16] [(13,oL 3 enc_i64 out)] obN ?_
   refine tD ?_
   obtain he0:=h
   subst res
   exact (endD [(13,0)] (vL enc_i64 out) []).1
 ·rcases Bool.eq_false_or_eq_true (decide (i < (↑(List.length (List.map enc_i64 a)):Int))) with hb40 | hb40
  ·refine sD kk [bF,bF,bF,bF,bT] [] [(52,vB true)] (obC (gff hb40) (obC (gff hb40) (obC (gff hb40) (obC (gff hb40) (obC hb40 obN))))) ?_
   exact Sem.cast (by try rw [hb40];kernel_rfl) hk0
  ·refine sDE kk [bT,bT,bT,bT,bF] [] [(52,vB (decide (k < (↑(List.length (List.map enc_i64 b)):Int))))] [(52,vB (decide (k < (↑(List.length b):Int))))] (obC (gft hb40) (obC (gft hb40) (obC (gft hb40) (obC (gft hb40) (obC hb40 obN))))) ?_
   exact Sem.cast (by try rw [hb40];kernel_rfl) hk0
set_option maxHeartbeats 1000000 in
theorem W_heckleref10_Run (a:api_Auto) (from0:(List Int)) (w0:ByteArray) (res:Int) (res_1:Int)
 (h:(∃ (Inv244:Int→Int→List Int→Int→Prop) (mu245:Int→Int→List Int→Int→Nat),Inv244 (-1) 0 from0 0∧(∀ (rule0_1:Int) (most_1:Int) (next:List Int) (i:Int),Inv244 rule0_1 most_1 next i→(((decide (i < (↑(ByteArray.size w0):Int)) && decide ((↑(List.length next):Int) > (0:Int)))=true→(∃ (Inv324:List Int→Int→Int→Prop) (mu325:List Int→Int→Int→Nat),Inv324 ([]) (-1) 0∧(∀ (then0_9:List Int) (best_9:Int) (k_2:Int),Inv324 then0_9 best_9 k_2→(((decide (k_2 < (↑(List.length next):Int)))=true→(∃ J347:List Int→Int→Prop,(∀ (then0_11:List Int) (best_11:Int),J347 then0_11 best_11→(Inv324 then0_11 best_11 (w64 (k_2+1))∧mu325 then0_11 best_11 (w64 (k_2+1)) < mu325 then0_9 best_9 k_2))∧((0:Int)≤k_2)∧k_2 < ↑(List.length next)∧((0:Int)≤gd next k_2)∧gd next k_2 < ↑(List.length (api_Auto.Sets a))∧((0:Int)≤i)∧i < ↑(ByteArray.size w0)∧(∃ r0_34:Bool,C_heckleref01_Has (gd (api_Auto.Sets a) (gd next k_2)) (w64 (↑(UInt8.toNat (byteAt w0 i)):Int)) r0_34∧(((!r0_34)=true→J347 then0_9 best_9)∧((!r0_34)=false→((0:Int)≤gd next k_2)∧gd next k_2 < ↑(List.length (api_Auto.Follow a))∧(∃ r0_35:List Int,C_heckleref09_Add then0_9 (gd (api_Auto.Follow a) (gd next k_2)) r0_35∧((0:Int)≤gd next k_2)∧gd next k_2 < ↑(List.length (api_Auto.Ends a))∧((gd (api_Auto.Ends a) (gd next k_2))=true→((decide (best_9 < (0:Int)))=false→((0:Int)≤gd next k_2)))∧((gd (api_Auto.Ends a) (gd next k_2))=true→((decide (best_9 < (0:Int)))=false→gd next k_2 < ↑(List.length (api_Auto.Owner a))))∧(((gd (api_Auto.Ends a) (gd next k_2) && (decide (best_9 < (0:Int)) || decide (gd (api_Auto.Owner a) (gd next k_2) < best_9)))=true→((0:Int)≤gd next k_2)∧gd next k_2 < ↑(List.length (api_Auto.Owner a))∧J347 r0_35 (gd (api_Auto.Owner a) (gd next k_2)))∧((gd (api_Auto.Ends a) (gd next k_2) && (decide (best_9 < (0:Int)) || decide (gd (api_Auto.Owner a) (gd next k_2) < best_9)))=false→J347 r0_35 best_9))))))))∧((decide (k_2 < (↑(List.length next):Int)))=false→(∃ J369:Int→Int→Prop,(∀ (rule0_3:Int) (most_3:Int),J369 rule0_3 most_3→(Inv244 rule0_3 most_3 then0_9 (w64 (i+1))∧mu245 rule0_3 most_3 then0_9 (w64 (i+1)) < mu245 rule0_1 most_1 next i))∧(((decide (best_9≥(0:Int)))=true→J369 best_9 (w64 (i+1)))∧((decide (best_9≥(0:Int)))=false→J369 rule0_1 most_1))))))))∧((decide (i < (↑(ByteArray.size w0):Int)) && decide ((↑(List.length next):Int) > (0:Int)))=false→(res=rule0_1∧res_1=most_1)))))):C_heckleref10_Run a from0 w0 res res_1:=by
 unfold C_heckleref10_Run
 have kk:=cfOk [85,86] 87
 refine fD (x:=bodyOf Try.f24) kk Try.func24 ?_
 refine wkS [1,4,7] [(1,av_api_Auto a),(4,vL enc_i64 from0),(7,vS w0)] (by kernel_rfl) ?_
 refine sD kk [] [1] [(10,.ptr 20 0),(20,av_api_Auto a)] obN ?_
 refine sD kk [] [] [(25,vi (-1)),(28,vi 0)] obN ?_
 refine sD kk [] [4] [(31,vL enc_i64 from0)] obN ?_
 refine qD ?_
 refine sD kk [] [] [(34,vi 0)] obN ?_
 refine bD (id:=0) ?_
 obtain ⟨Inv244,mu245,h0Inv244,hInv244⟩:=h
 refine loD (fun (q:Int×Int×List Int×Int)=>(fun (rule0_1:Int) (most_1:Int) (next:List Int) (i:Int)=>([(7,vS w0),(10,.ptr 20 0),(20,av_api_Auto a),(25,vi rule0_1),(28,vi most_1),(31,vL enc_i64 next),(34,vi i)]:Sta)) q.1 q.2.1 q.2.2.1 q.2.2.2) (fun (q:Int×Int×List Int×Int)=>Inv244 q.1 q.2.1 q.2.2.1 q.2.2.2) (fun (q:Int×Int×List Int×Int)=>mu245 q.1 q.2.1 q.2.2.1 q.2.2.2) ((-1),0,from0,0) [] h0Inv244 ?_
 rintro ⟨rule0_1,most_1,next,i⟩ hi
 have h:=hInv244 rule0_1 most_1 next i hi
 refine qD ?_
 refine sM [] [(76,vB (decide (i < (↑(ByteArray.size w0):Int)) && decide ((↑(List.length next):Int) > (0:Int))))] ?_ (fun hk0=>?_)
 ·refine cD (t:=25) (b:=decide (i < (↑(ByteArray.size w0):Int)) && decide ((↑(List.length next):Int) > (0:Int))) (fun hb247=>?_) (fun hb247=>?_)
  ·have h:=h.1 hb247
   refine Sem.skip' (by kernel_rfl) Wk.refl ?_
   show Sem _ _ _ _ _
   refine wkD [76] ?_
   refine qD ?_
   refine bD (id:=1) ?_
   refine sDE kk [] [] [(37,.own 3 ([]))] [(37,oL 3 enc_i64 ([]))] obN ?_
   refine sD kk [] [] [(40,vi (-1))] obN ?_
   refine qD ?_
   refine sD kk [] [] [(43,vi 0)] obN ?_
   refine bD (id:=2) ?_
   obtain ⟨Inv324,mu325,h0Inv324,hInv324⟩:=h
   refine loD (fun (q:List Int×Int×Int)=>(fun (then0_9:List Int) (best_9:Int) (k_2:Int)=>([(7,vS w0),(10,.ptr 20 0),(20,av_api_Auto a),(25,vi rule0_1),(28,vi most_1),(31,vL enc_i64 next),(34,vi i),(37,vL enc_i64 then0_9),(40,vi best_9),(43,vi k_2)]:Sta)) q.1 q.2.1 q.2.2) (fun (q:List Int×Int×Int)=>Inv324 q.1 q.2.1 q.2.2) (fun (q:List Int×Int×Int)=>mu325 q.1 q.2.1 q.2.2) (([]),(-1),0) [(37,0)] h0Inv324 ?_
   rintro ⟨then0_9,best_9,k_2⟩ hi
   have h:=hInv324 then0_9 best_9 k_2 hi
   refine qD ?_
   refine sDE kk [] [] [(94,vB (decide (k_2 < (↑(List.length (List.map enc_i64 next)):Int))))] [(94,vB (decide (k_2 < (↑(List.length next):Int))))] obN ?_
   refine cD (t:=31) (b:=decide (k_2 < (↑(List.length next):Int))) (fun hb326=>?_) (fun hb326=>?_)
   ·have h:=h.1 hb326
    refine Sem.skip' (by kernel_rfl) Wk.refl ?_
    show Sem _ _ _ _ _
    refine wkD [94] ?_
    obtain ⟨J347,hJ347,h⟩:=h
    refine sjD (fun (q:List Int×Int)=>J347 q.1 q.2) (fun (q:List Int×Int)=>(fun (then0_11:List Int) (best_11:Int)=>([(7,vS w0),(10,.ptr 20 0),(20,av_api_Auto a),(25,vi rule0_1),(28,vi most_1),(31,vL enc_i64 next),(34,vi i),(37,vL enc_i64 then0_11),(40,vi best_11),(43,vi k_2)]:Sta)) q.1 q.2) ?_ ?_
    ·rintro ⟨then0_11,best_11⟩ hj
     have h:=hJ347 then0_11 best_11 hj
     refine rD kk [] [] [(43,vi (w64 (k_2+1)))] obN ?_
     exact lD (then0_11,best_11,(w64 (k_2+1))) [] h
    ·refine bD (id:=3) ?_
     obtain ⟨h348,h⟩:=h
     obtain ⟨h349,h⟩:=h
     refine sD kk [.e (fi (gd next k_2))] [] [(46,vi (gd next k_2))] (obC h348 (obC (idx_ok enc_i64 next k_2 _ rfl h348 h349) obN)) ?_
     refine qD ?_
     obtain ⟨h350,h⟩:=h
     obtain ⟨h351,h⟩:=h
     obtain ⟨h352,h⟩:=h
     obtain ⟨h353,h⟩:=h
     obtain ⟨r0_34,hc354,h⟩:=h
     refine sD kk [.e (fv_arr4_uint64 (gd (api_Auto.Sets a) (gd next k_2))),.y (byteAt w0 i),.c (vB r0_34) []] [] [(145,vB (!r0_34))] (obC h350 (obC (idx_ok enc_arr4_uint64 (api_Auto.Sets a) (gd next k_2) _ (enc_arr4_uint64_eq _) h350 h351) (obC h352 (obC (byte_ok w0 i h352 h353) (obC hc354 obN))))) ?_
     refine cD (t:=48) (b:=!r0_34) (fun hb355=>?_) (fun hb355=>?_)
     ·have h:=h.1 hb355
      refine xD (i:=3) ?_
      exact jD (then0_9,best_9) [] h
     ·have h:=h.2 hb355
      refine Sem.skip' (by kernel_rfl) Wk.refl ?_
      show Sem _ _ _ _ _
      refine wkD [145] ?_
      obtain ⟨h356,h⟩:=h
      obtain ⟨h357,h⟩:=h
      obtain ⟨r0_35,hc358,h⟩:=h
      refine sD kk [.e (fL enc_i64 (gd (api_Auto.Follow a) (gd next k_2))),.c (vL enc_i64 r0_35) []] [] [(37,vL enc_i64 r0_35)] (obC h356 (obC (idx_ok encs_i64 (api_Auto.Follow a) (gd next k_2) _ rfl h356 h357) (obC hc358 obN))) ?_
      obtain ⟨h359,h⟩:=h
      obtain ⟨h360,h⟩:=h
      obtain ⟨h363,h364,h⟩:=h
      refine sM [] [(220,vB (gd (api_Auto.Ends a) (gd next k_2) && (decide (best_9 < (0:Int)) || decide (gd (api_Auto.Owner a) (gd next k_2) < best_9))))] ?_ (fun hk0=>?_)
      ·refine cD (t:=73) (b:=gd (api_Auto.Ends a) (gd next k_2) && (decide (best_9 < (0:Int)) || decide (gd (api_Auto.Owner a) (gd next k_2) < best_9))) (fun hb365=>?_) (fun hb365=>?_)
       ·have h:=h.1 hb365
        obtain ⟨h366,h⟩:=h
        obtain ⟨h367,h⟩:=h
        refine rD kk [.e (fi (gd (api_Auto.Owner a) (gd next k_2)))] [46,220] [(40,vi (gd (api_Auto.Owner a) (gd next k_2)))] (obC h366 (obC (idx_ok enc_i64 (api_Auto.Owner a) (gd next k_2) _ rfl h366 h367) obN)) ?_
        exact jD (r0_35,(gd (api_Auto.Owner a) (gd next k_2))) [] h
       ·have h:=h.2 hb365
        refine Sem.skip' (by kernel_rfl) Wk.refl ?_
        exact jD (r0_35,best_9) [] h
      ·rcases Bool.eq_false_or_eq_true (gd (api_Auto.Ends a) (gd next k_2)) with hb361 | hb361
       ·rcases Bool.eq_false_or_eq_true (decide (best_9 < (0:Int))) with hb362 | hb362
        ·refine sD kk [.e (fB (gd (api_Auto.Ends a) (gd next k_2))),bT,bT,bT,bF,bF,bF,bF,bF,bF,bF,bT,bT,bT] [] [(220,vB true)] (obC h359 (obC (idx_ok enc_bool (api_Auto.Ends a) (gd next k_2) _ rfl h359 h360) (obC (gtt hb361) (obC (gtt hb361) (obC (gtt hb361) (obC (gff hb362) (obC (gff hb362) (obC (gff hb362) (obC (gff hb362) (obC (gff hb362) (obC (gff hb362) (obC (gff hb362) (obC (gtt hb361) (obC hb362 (obC hb361 obN))))))))))))))) ?_
         exact Sem.cast (by try rw [hb361];try rw [hb362];kernel_rfl) hk0
        ·refine sD kk [.e (fB (gd (api_Auto.Ends a) (gd next k_2))),bT,bT,bT,bT,bT,bT,bT,.e (fi (gd (api_Auto.Owner a) (gd next k_2))),bT,bT,bT,bT,bF,bT] [] [(220,vB (decide (gd (api_Auto.Owner a) (gd next k_2) < best_9)))] (obC h359 (obC (idx_ok enc_bool (api_Auto.Ends a) (gd next k_2) _ rfl h359 h360) (obC (gtt hb361) (obC (gtt hb361) (obC (gtt hb361) (obC (gft hb362) (obC (gft hb362) (obC (gft hb362) (obC (gft hb362) (obC ((h363 hb361) hb362) (obC (idx_ok enc_i64 (api_Auto.Owner a) (gd next k_2) _ rfl ((h363 hb361) hb362) ((h364 hb361) hb362)) (obC (gft hb362) (obC (gft hb362) (obC (gft hb362) (obC (gtt hb361) (obC hb362 (obC hb361 obN))))))))))))))))) ?_
         exact Sem.cast (by try rw [hb361];try rw [hb362];kernel_rfl) hk0
       ·refine sD kk [.e (fB (gd (api_Auto.Ends a) (gd next k_2))),bF,bF,bF,bF,bF] [] [(220,vB false)] (obC h359 (obC (idx_ok enc_bool (api_Auto.Ends a) (gd next k_2) _ rfl h359 h360) (obC (gtf hb361) (obC (gtf hb361) (obC (gtf hb361) (obC (gtf hb361) (obC hb361 obN))))))) ?_
        exact Sem.cast (by try rw [hb361];kernel_rfl) hk0
   ·have h:=h.2 hb326
    refine xD (i:=2) ?_
    show Sem _ _ _ _ _
    refine wkD [31,43,94] ?_
    obtain ⟨J369,hJ369,h⟩:=h
    refine sjD (fun (q:Int×Int)=>J369 q.1 q.2) (fun (q:Int×Int)=>(fun (rule0_3:Int) (most_3:Int)=>([(7,vS w0),(10,.ptr 20 0),(20,av_api_Auto a),(25,vi rule0_3),(28,vi most_3),(34,vi i),(37,vL enc_i64 then0_9)]:Sta)) q.1 q.2) ?_ ?_
    ·rintro ⟨rule0_3,most_3⟩ hj
     have h:=hJ369 rule0_3 most_3 hj
     refine rD kk [] [37] [(31,vL enc_i64 then0_9)] obN ?_
     show Sem _ _ _ _ _
     refine rD kk [] [] [(34,vi (w64 (i+1)))] obN ?_
     exact lD (rule0_3,most_3,then0_9,(w64 (i+1))) [] h
    ·refine sD kk [] [] [(241,vB (decide (best_9≥(0:Int))))] obN ?_
     refine cD (t:=80) (b:=decide (best_9≥(0:Int))) (fun hb370=>?_) (fun hb370=>?_)
     ·have h:=h.1 hb370
      refine rD kk [] [40,241] [(25,vi best_9),(28,vi (w64 (i+1)))] obN ?_
      exact jD (best_9,(w64 (i+1))) [] h
     ·have h:=h.2 hb370
      refine Sem.skip' (by kernel_rfl) Wk.refl ?_
      exact jD (rule0_1,most_1) [] h
  ·have h:=h.2 hb247
   refine xD (i:=0) ?_
   show Sem _ _ _ _ _
   refine wkD [7,10,20,31,34,76] ?_
   refine sD kk [] [25,28] [(19,vi rule0_1),(22,vi most_1)] obN ?_
   refine tD ?_
   obtain ⟨he0,he1⟩:=h
   subst res res_1
   exact (endD [] (.tup [vi rule0_1,vi most_1]) []).1
 ·rcases Bool.eq_false_or_eq_true (decide (i < (↑(ByteArray.size w0):Int))) with hb246 | hb246
  ·refine sDE kk [bT,bT,bT,bT] [] [(76,vB (decide ((↑(List.length (List.map enc_i64 next)):Int) > (0:Int))))] [(76,vB (decide ((↑(List.length next):Int) > (0:Int))))] (obC (gtt hb246) (obC (gtt hb246) (obC (gtt hb246) (obC hb246 obN)))) ?_
   exact Sem.cast (by try rw [hb246];kernel_rfl) hk0
  ·refine sD kk [bF,bF,bF,bF] [] [(76,vB false)] (obC (gtf hb246) (obC (gtf hb246) (obC (gtf hb246) (obC hb246 obN)))) ?_
   exact Sem.cast (by try rw [hb246];kernel_rfl) hk0
set_option maxHeartbeats 1000000 in
theorem W_hecklelaw10_AutoRight (a:api_Auto) (w0:ByteArray) (res:Bool)
 (h:(((decide ((↑(List.length (List.map enc_arr4_uint64 (api_Auto.Sets a))):Int) > (30:Int)) || (decide ((↑(List.length (List.map encs_i64 (api_Auto.Starts a))):Int) > (18:Int)) || (decide ((↑(List.length (List.map encs_i64 (api_Auto.Follow a))):Int) > (40:Int)) || decide ((↑(ByteArray.size w0):Int) > (20:Int)))))=true→(∃ r0:Bool,C_hecklelaw10_awake r0∧(res=r0)))∧((decide ((↑(List.length (List.map enc_arr4_uint64 (api_Auto.Sets a))):Int) > (30:Int)) || (decide ((↑(List.length (List.map encs_i64 (api_Auto.Starts a))):Int) > (18:Int)) || (decide ((↑(List.length (List.map encs_i64 (api_Auto.Follow a))):Int) > (40:Int)) || decide ((↑(ByteArray.size w0):Int) > (20:Int)))))=false→(∃ r0_1:Bool,C_auto_Right a r0_1∧(∃ r0_2:Bool,C_heckleref10_Right a r0_2∧(((!r0_1 == r0_2)=true→(res=false))∧((!r0_1 == r0_2)=false→(∃ (Inv48:Int→Prop) (mu49:Int→Nat),Inv48 0∧(∀ (i:Int),Inv48 i→(((decide (i < (↑(List.length (api_Auto.Starts a)):Int)))=true→(∃ J61:Prop,(J61→(Inv48 (w64 (i+1))∧mu49 (w64 (i+1)) < mu49 i))∧((0:Int)≤i)∧i < ↑(List.length (api_Auto.Starts a))∧(∃ r0_28:Int,∃ r0_29:Int,C_auto_Run a (gd (api_Auto.Starts a) i) w0 r0_28 r0_29∧(∃ r0_30:Bool,C_heckleref10_Right a r0_30∧(((!r0_30)=true→J61)∧((!r0_30)=false→((0:Int)≤i)∧i < ↑(List.length (api_Auto.Starts a))∧(∃ r0_31:Int,∃ r0_32:Int,C_heckleref10_Run a (gd (api_Auto.Starts a) i) w0 r0_31 r0_32∧(((r0_28 != r0_31 || r0_29 != r0_32)=true→(res=false))∧((r0_28 != r0_31 || r0_29 != r0_32)=false→J61)))))))))∧((decide (i < (↑(List.length (api_Auto.Starts a)):Int)))=false→(∃ r0_33:Bool,C_hecklelaw10_awake r0_33∧(res=r0_33))))))))))))):C_hecklelaw10_AutoRight a w0 res:=by
 unfold C_hecklelaw10_AutoRight
 have kk:=cfOk [] 78
 refine fD (x:=bodyOf Try.f6) kk Try.func6 ?_
 refine wkS [1,4] [(1,av_api_Auto a),(4,vS w0)] (by kernel_rfl) ?_
 refine sD kk [] [1] [(7,.ptr 14 0),(14,av_api_Auto a)] obN ?_
 refine qD ?_
 refine sM [] [(91,vB (decide ((↑(List.length (List.map enc_arr4_uint64 (api_Auto.Sets a))):Int) > (30:Int)) || (decide ((↑(List.length (List.map encs_i64 (api_Auto.Starts a))):Int) > (18:Int)) || (decide ((↑(List.length (List.map encs_i64 (api_Auto.Follow a))):Int) > (40:Int)) || decide ((↑(ByteArray.size w0):Int) > (20:Int))))))] ?_ (fun hk0=>?_)
 ·refine cD (t:=30) (b:=decide ((↑(List.length (List.map enc_arr4_uint64 (api_Auto.Sets a))):Int) > (30:Int)) || (decide ((↑(List.length (List.map encs_i64 (api_Auto.Starts a))):Int) > (18:Int)) || (decide ((↑(List.length (List.map encs_i64 (api_Auto.Follow a))):Int) > (40:Int)) || decide ((↑(ByteArray.size w0):Int) > (20:Int))))) (fun hb3=>?_) (fun hb3=>?_)
  ·have h:=h.1 hb3
   obtain ⟨r0,hc4,h⟩:=h
   refine sD kk [.c (vB r0) []] [4,7,14,91] [(13,vB r0)] (obC hc4 obN) ?_
   refine tD ?_
   obtain he0:=h
   subst res
   exact (endD [] (vB r0) []).1
  ·have h:=h.2 hb3
   refine Sem.skip' (by kernel_rfl) Wk.refl ?_
   show Sem _ _ _ _ _
   refine wkD [91] ?_
   refine qD ?_
   obtain ⟨r0_1,hc5,h⟩:=h
   obtain ⟨r0_2,hc6,h⟩:=h
   refine sD kk [.c (vB r0_1) [],.c (vB r0_2) []] [] [(109,vB (!r0_1 == r0_2))] (obC hc5 (obC hc6 obN)) ?_
   refine cD (t:=36) (b:=!r0_1 == r0_2) (fun hb7=>?_) (fun hb7=>?_)
   ·have h:=h.1 hb7
    refine sD kk [] [4,7,14,109] [(13,vB false)] obN ?_
    refine tD ?_
    obtain he0:=h
    subst res
    exact (endD [] (vB false) []).1
   ·have h:=h.2 hb7
    refine Sem.skip' (by kernel_rfl) Wk.refl ?_
    show Sem _ _ _ _ _
    refine wkD [109] ?_
    refine qD ?_
    refine sD kk [] [] [(16,vi 0)] obN ?_
    refine bD (id:=0) ?_
    obtain ⟨Inv48,mu49,h0Inv48,hInv48⟩:=h
    refine loD (fun (q:Int)=>(fun (i:Int)=>([(4,vS w0),(7,.ptr 14 0),(14,av_api_Auto a),(16,vi i)]:Sta)) q) (fun (q:Int)=>Inv48 q) (fun (q:Int)=>mu49 q) 0 [] h0Inv48 ?_
    rintro i hi
    have h:=hInv48 i hi
    refine qD ?_
    refine sDE kk [] [] [(124,vB (decide (i < (↑(List.length (List.map encs_i64 (api_Auto.Starts a))):Int))))] [(124,vB (decide (i < (↑(List.length (api_Auto.Starts a)):Int))))] obN ?_
    refine cD (t:=41) (b:=decide (i < (↑(List.length (api_Auto.Starts a)):Int))) (fun hb50=>?_) (fun hb50=>?_)
    ·have h:=h.1 hb50
     refine Sem.skip' (by kernel_rfl) Wk.refl ?_
     show Sem _ _ _ _ _
     refine wkD [124] ?_
     obtain ⟨J61,hJ61,h⟩:=h
     refine sjD (fun (_:Unit)=>J61) (fun (_:Unit)=>[(4,vS w0),(7,.ptr 14 0),(14,av_api_Auto a),(16,vi i)]) ?_ ?_
     ·rintro _ hj
      have h:=hJ61 hj
      refine rD kk [] [] [(16,vi (w64 (i+1)))] obN ?_
      exact lD (w64 (i+1)) [] h
     ·refine bD (id:=1) ?_
      obtain ⟨h62,h⟩:=h
      obtain ⟨h63,h⟩:=h
      obtain ⟨r0_28,r0_29,hc64,h⟩:=h
      refine sD kk [.e (fL enc_i64 (gd (api_Auto.Starts a) i)),.c (.tup [vi r0_28,vi r0_29]) []] [] [(19,vi r0_28),(22,vi r0_29)] (obC h62 (obC (idx_ok encs_i64 (api_Auto.Starts a) i _ rfl h62 h63) (obC hc64 obN))) ?_
      refine qD ?_
      obtain ⟨r0_30,hc65,h⟩:=h
      refine sD kk [.c (vB r0_30) []] [] [(172,vB (!r0_30))] (obC hc65 obN) ?_
      refine cD (t:=57) (b:=!r0_30) (fun hb66=>?_) (fun hb66=>?_)
      ·have h:=h.1 hb66
       refine xD (i:=1) ?_
       exact jD () [] h
      ·have h:=h.2 hb66
       refine Sem.skip' (by kernel_rfl) Wk.refl ?_
       show Sem _ _ _ _ _
       refine wkD [172] ?_
       obtain ⟨h67,h⟩:=h
       obtain ⟨h68,h⟩:=h
       obtain ⟨r0_31,r0_32,hc69,h⟩:=h
       refine sD kk [.e (fL enc_i64 (gd (api_Auto.Starts a) i)),.c (.tup [vi r0_31,vi r0_32]) []] [] [(25,vi r0_31),(28,vi r0_32)] (obC h67 (obC (idx_ok encs_i64 (api_Auto.Starts a) i _ rfl h67 h68) (obC hc69 obN))) ?_
       refine sM [19,22,25,28] [(229,vB (r0_28 != r0_31 || r0_29 != r0_32))] ?_ (fun hk0=>?_)
       ·refine cD (t:=76) (b:=r0_28 != r0_31 || r0_29 != r0_32) (fun hb71=>?_) (fun hb71=>?_)
        ·have h:=h.1 hb71
         refine sD kk [] [4,7,14,16,229] [(13,vB false)] obN ?_
         refine tD ?_
         obtain he0:=h
         subst res
         exact (endD [] (vB false) []).1
        ·have h:=h.2 hb71
         refine Sem.skip' (by kernel_rfl) Wk.refl ?_
         exact jD () [] h
       ·rcases Bool.eq_false_or_eq_true (r0_28 != r0_31) with hb70 | hb70
        ·refine sD kk [bF,bF,bF,bT] [19,22,25,28] [(229,vB true)] (obC (gff hb70) (obC (gff hb70) (obC (gff hb70) (obC hb70 obN)))) ?_
         exact Sem.cast (by try rw [hb70];kernel_rfl) hk0
        ·refine sD kk [bT,bT,bT,bF] [19,22,25,28] [(229,vB (r0_29 != r0_32))] (obC (gft hb70) (obC (gft hb70) (obC (gft hb70) (obC hb70 obN)))) ?_
         exact Sem.cast (by try rw [hb70];kernel_rfl) hk0
    ·have h:=h.2 hb50
     refine xD (i:=0) ?_
     show Sem _ _ _ _ _
     refine wkD [4,7,14,16,124] ?_
     obtain ⟨r0_33,hc72,h⟩:=h
     refine sD kk [.c (vB r0_33) []] [] [(13,vB r0_33)] (obC hc72 obN) ?_
     refine tD ?_
     obtain he0:=h
     subst res
     exact (endD [] (vB r0_33) []).1
 ·rcases Bool.eq_false_or_eq_true (decide ((↑(List.length (List.map enc_arr4_uint64 (api_Auto.Sets a))):Int) > (30:Int))) with hb0 | hb0
  ·refine sD kk [bF,bF,bF,bF,bT,bF,bF,bF,bF,bT,bF,bF,bF,bT] [] [(91,vB true)] (obC (gff hb0) (obC (gff hb0) (obC (gff hb0) (obC (gff hb0) (obC hb0 (oF (oF (oF (oF (oT (oF (oF (oF (oT obN)))))))))))))) ?_
   exact Sem.cast (by try rw [hb0];kernel_rfl) hk0
  ·rcases Bool.eq_false_or_eq_true (decide ((↑(List.length (List.map encs_i64 (api_Auto.Starts a))):Int) > (18:Int))) with hb1 | hb1
   ·refine sD kk [bT,bT,bT,bT,bF,bF,bF,bF,bF,bT,bF,bF,bF,bT] [] [(91,vB true)] (obC (gft hb0) (obC (gft hb0) (obC (gft hb0) (obC (gft hb0) (obC hb0 (obC (gff hb1) (obC (gff hb1) (obC (gff hb1) (obC (gff hb1) (obC hb1 (oF (oF (oF (oT obN)))))))))))))) ?_
    exact Sem.cast (by try rw [hb0];try rw [hb1];kernel_rfl) hk0
   ·rcases Bool.eq_false_or_eq_true (decide ((↑(List.length (List.map encs_i64 (api_Auto.Follow a))):Int) > (40:Int))) with hb2 | hb2
    ·refine sD kk [bT,bT,bT,bT,bF,bT,bT,bT,bT,bF,bF,bF,bF,bT] [] [(91,vB true)] (obC (gft hb0) (obC (gft hb0) (obC (gft hb0) (obC (gft hb0) (obC hb0 (obC (gft hb1) (obC (gft hb1) (obC (gft hb1) (obC (gft hb1) (obC hb1 (obC (gff hb2) (obC (gff hb2) (obC (gff hb2) (obC hb2 obN)))))))))))))) ?_
     exact Sem.cast (by try rw [hb0];try rw [hb1];try rw [hb2];kernel_rfl) hk0
    ·refine sD kk [bT,bT,bT,bT,bF,bT,bT,bT,bT,bF,bT,bT,bT,bF] [] [(91,vB (decide ((↑(ByteArray.size w0):Int) > (20:Int))))] (obC (gft hb0) (obC (gft hb0) (obC (gft hb0) (obC (gft hb0) (obC hb0 (obC (gft hb1) (obC (gft hb1) (obC (gft hb1) (obC (gft hb1) (obC hb1 (obC (gft hb2) (obC (gft hb2) (obC (gft hb2) (obC hb2 obN)))))))))))))) ?_
     exact Sem.cast (by try rw [hb0];try rw [hb1];try rw [hb2];kernel_rfl) hk0
end Go.Ev
set_option linter.unusedSimpArgs false
set_option linter.unusedVariables false
namespace Go.Ev
open Go Go.Proofs
theorem w64_id0 {n:Int} (h0:-2 ^ 63≤n) (h1:n < 2 ^ 63):w64 n=n:=wrap64 (by omega) (by omega)
theorem quot64 (i:Int) (h0:0≤i) (h1:i < 256):w64 (Int.tdiv i 64)=i / 64∧i.tmod 64=i - 64 * (i / 64)∧0≤i.tmod 64:=by
 rw [Int.tdiv_eq_ediv_of_nonneg h0,Int.tmod_eq_emod_of_nonneg h0]
 exact ⟨w64_id0 (by omega) (by omega),by omega,by omega⟩
def bitOf (w:Int) (i:Int):Bool:=IntKind.u64.wrap (BitVec.ofInt IntKind.u64.bits (w.fdiv (2 ^ min i.toNat IntKind.u64.bits)) &&& BitVec.ofInt IntKind.u64.bits 1).toNat == 1
def setHas (s:arr4_uint64) (i:Int):Bool:=
 if i < 0 then false else if i < 64 then bitOf s.e0 i else if i < 128 then bitOf s.e1 (i - 64) else if i < 192 then bitOf s.e2 (i - 128) else if i < 256 then bitOf s.e3 (i - 192) else false
theorem has_ok (s:arr4_uint64) (i:Int):C_heckleref01_Has s i (setHas s i):=by
 refine W_heckleref01_Has s i _ ⟨fun g=>⟨fun g1=>?_,fun g1=>?_⟩,fun g=>?_⟩
 ·have g:=of_decide_eq_true g
  have g1:=of_decide_eq_true g1
  obtain ⟨q,m,hm⟩:=quot64 i g g1
  rw [q,m]
  refine ⟨by omega,fun h=>⟨fun _ _ _=>by omega,?_⟩,fun h=>⟨fun _ _ _=>by omega,?_⟩,fun h=>⟨fun _ _ _=>by omega,?_⟩,fun h=>⟨fun _ _ _=>by omega,?_⟩⟩
  all_goals
   have h:=of_decide_eq_true h
   rw [h]
  ·simp [setHas,show ¬ i < 0 by omega,show i < 64 by omega,bitOf]
  ·simp [setHas,show ¬ i < 0 by omega,show ¬ i < 64 by omega,show i < 128 by omega,bitOf]
  ·simp [setHas,show ¬ i < 0 by omega,show ¬ i < 64 by omega,show ¬ i < 128 by omega,show i < 192 by omega,bitOf]
  ·simp [setHas,show ¬ i < 0 by omega,show ¬ i < 64 by omega,show ¬ i < 128 by omega,show ¬ i < 192 by omega,show i < 256 by omega,bitOf]
 ·have g:=of_decide_eq_true g
  have g1:=of_decide_eq_false g1
  simp [setHas,show ¬ i < 0 by omega,show ¬ i < 64 by omega,show ¬ i < 128 by omega,show ¬ i < 192 by omega,show ¬ i < 256 by omega]
 ·have g:=of_decide_eq_false g
  simp [setHas,show i < 0 by omega]
def bitOf2 (w:Int) (i:Int):Bool:=!(IntKind.u64.wrap (BitVec.ofInt IntKind.u64.bits w &&& BitVec.ofInt IntKind.u64.bits (IntKind.u64.wrap (1 * 2 ^ min i.toNat IntKind.u64.bits))).toNat == 0)
def setHas2 (s:arr4_uint64) (i:Int):Bool:=
 if i < 0 then false else if i < 64 then bitOf2 s.e0 i else if i < 128 then bitOf2 s.e1 (i - 64) else if i < 192 then bitOf2 s.e2 (i - 128) else if i < 256 then bitOf2 s.e3 (i - 192) else false
theorem has2_ok (s:arr4_uint64) (i:Int):C_set_Has s i (setHas2 s i):=by
 refine W_set_Has s i _ ⟨fun g=>⟨fun g1=>?_,fun g1=>?_⟩,fun g=>?_⟩
 ·have g:=of_decide_eq_true g
  have g1:=of_decide_eq_true g1
  obtain ⟨q,m,hm⟩:=quot64 i g g1
  rw [q,m]
  refine ⟨by omega,fun h=>⟨fun _ _ _=>by omega,?_⟩,fun h=>⟨fun _ _ _=>by omega,?_⟩,fun h=>⟨fun _ _ _=>by omega,?_⟩,fun h=>⟨fun _ _ _=>by omega,?_⟩⟩
  all_goals
   have h:=of_decide_eq_true h
   rw [h]
  ·simp [setHas2,show ¬ i < 0 by omega,show i < 64 by omega,bitOf2,bne]
  ·simp [setHas2,show ¬ i < 0 by omega,show ¬ i < 64 by omega,show i < 128 by omega,bitOf2,bne]
  ·simp [setHas2,show ¬ i < 0 by omega,show ¬ i < 64 by omega,show ¬ i < 128 by omega,show i < 192 by omega,bitOf2,bne]
  ·simp [setHas2,show ¬ i < 0 by omega,show ¬ i < 64 by omega,show ¬ i < 128 by omega,show ¬ i < 192 by omega,show i < 256 by omega,bitOf2,bne]
 ·have g:=of_decide_eq_true g
  have g1:=of_decide_eq_false g1
  simp [setHas2,show ¬ i < 0 by omega,show ¬ i < 64 by omega,show ¬ i < 128 by omega,show ¬ i < 192 by omega,show ¬ i < 256 by omega]
 ·have g:=of_decide_eq_false g
  simp [setHas2,show i < 0 by omega]
end Go.Ev
namespace Go.Ev.Pl
open Go Go.Ev
theorem wrapu (n:Int):IntKind.u64.wrap n=n % 2 ^ 64:=by
 simp [IntKind.wrap,IntKind.bits,IntKind.signed]
theorem and_pow (V k:Nat):V &&& 2 ^ k=(V / 2 ^ k % 2) * 2 ^ k:=by
 have hb:V.testBit k=decide (V / 2 ^ k % 2=1):=Nat.testBit_eq_decide_div_mod_eq
 have hlt:V / 2 ^ k % 2 < 2:=Nat.mod_lt _ (by omega)
 by_cases h:V / 2 ^ k % 2=1
 ·rw [h,Nat.one_mul]
  refine Nat.eq_of_testBit_eq fun j=>?_
  rw [Nat.testBit_and,Nat.testBit_two_pow]
  by_cases hj:k=j
  ·subst hj;rw [hb];simp [h]
  ·simp [hj]
 ·rw [show V / 2 ^ k % 2=0 by omega,Nat.zero_mul]
  refine Nat.eq_of_testBit_eq fun j=>?_
  rw [Nat.testBit_and,Nat.testBit_two_pow,Nat.zero_testBit]
  by_cases hj:k=j
  ·subst hj;rw [hb];simp [h]
  ·simp [hj]
theorem bit_eq (w i:Int) (h0:0≤i) (h1:i < 64):bitOf2 w i=bitOf w i:=by
 obtain ⟨k,rfl⟩:∃ k:Nat,i=k:=⟨i.toNat,by omega⟩
 have hk:k < 64:=by omega
 have hmin:min ((k:Int)).toNat IntKind.u64.bits=k:=by simp [IntKind.bits];omega
 have hb:IntKind.u64.bits=64:=rfl
 unfold bitOf2 bitOf
 rw [hmin,hb]
 simp only [wrapu,BitVec.toNat_and,BitVec.toNat_ofInt]
 obtain ⟨V,hV⟩:∃ V:Nat,w % 2 ^ 64=V:=⟨(w % 2 ^ 64).toNat,by omega⟩
 have e0:((2 ^ 64:Nat):Int)=2 ^ 64:=by norm_cast
 have h2k:(2:Int) ^ k=((2 ^ k:Nat):Int):=by norm_cast
 have hkk:2 ^ k < 2 ^ 64:=Nat.pow_lt_pow_right (by omega) hk
 have hkp:0 < 2 ^ k:=Nat.pow_pos (by omega)
 have hVlt:V < 2 ^ 64:=by omega
 have e1:(1 * 2 ^ k % 2 ^ 64 % ((2 ^ 64:Nat):Int)).toNat=2 ^ k:=by
  rw [e0,Int.one_mul,h2k];omega
 have e2:((1:Int) % ((2 ^ 64:Nat):Int)).toNat=1:=by rw [e0];rfl
 rw [e1,e2,e0,hV,Int.toNat_natCast,and_pow,Nat.and_one_is_mod]
 have hw:w=V+2 ^ 64 * (w / 2 ^ 64):=by have:=Int.emod_add_mul_ediv w (2 ^ 64);omega
 have hsplit:(2:Int) ^ 64=2 ^ k * (2 * 2 ^ (63 - k)):=by
  rw [← Int.mul_assoc,← Int.pow_succ,← Int.pow_add];congr 1;omega
 have hdiv:w.fdiv (2 ^ k)=((V / 2 ^ k:Nat):Int)+2 * (2 ^ (63 - k) * (w / 2 ^ 64)):=by
  rw [Int.fdiv_eq_ediv_of_nonneg _ (by rw [h2k];omega)]
  have:w=V+2 ^ k * (2 * (2 ^ (63 - k) * (w / 2 ^ 64))):=by
   rw [← Int.mul_assoc,← Int.mul_assoc,Int.mul_assoc (2 ^ k) 2,← hsplit];exact hw
  conv=>lhs;rw [this]
  rw [Int.add_mul_ediv_left _ _ (by rw [h2k];omega),h2k]
  norm_cast
 have hmod:(w.fdiv (2 ^ k) % 2 ^ 64).toNat % 2=V / 2 ^ k % 2:=by
  rw [hdiv]
  generalize 2 ^ (63 - k) * (w / 2 ^ 64)=Z
  omega
 rw [hmod]
 have:V / 2 ^ k % 2 < 2:=Nat.mod_lt _ (by omega)
 by_cases hbit:V / 2 ^ k % 2=1
 ·rw [hbit];simp;omega
 ·have:V / 2 ^ k % 2=0:=by omega
  rw [this];simp
theorem has2_eq (s:arr4_uint64) (i:Int):setHas2 s i=setHas s i:=by
 unfold setHas2 setHas
 split
 ·rfl
 ·split
  ·exact bit_eq _ _ (by omega) (by omega)
  ·split
   ·exact bit_eq _ _ (by omega) (by omega)
   ·split
    ·exact bit_eq _ _ (by omega) (by omega)
    ·split
     ·exact bit_eq _ _ (by omega) (by omega)
     ·rfl
theorem setHas_ok (s:arr4_uint64) (i:Int):C_set_Has s i (setHas s i):=by rw [← has2_eq];exact has2_ok s i
end Go.Ev.Pl
