/- Numbers by name. -/
import Derived.Test.YtehffjjfomapnaaGreatDoorEnv
import Derived.Test.YtehffjjfomapnaaGreatDoorZE
namespace Go.Proofs.YtehffjjfomapnaaGreatDoor
noncomputable section
open Go Go.Abs
set_option maxRecDepth 100000
abbrev f_foremanlaw30_PlayerItems : Nat := 3
abbrev c_foremanlaw30_PlayerItems : AFn := a3
abbrev f_foremanlaw09_Few : Nat := 4
abbrev f_foremanlaw30_awake : Nat := 5
abbrev f_player_Item : Nat := 6
abbrev c_player_Item : AFn := a6
abbrev f_player_Say : Nat := 7
abbrev f_frag_Right : Nat := 8
abbrev f_frag_Same : Nat := 9
abbrev f_strings_Contains : Nat := 10
abbrev f_strings_Cut : Nat := 13
abbrev f_player_number : Nat := 14
abbrev f_strings_Split : Nat := 15
abbrev f_strings_Builder_WriteString : Nat := 16
abbrev f_strings_Builder_String : Nat := 18
abbrev f_slices_ContainsFunc_Item : Nat := 19
abbrev f_frag_Right_1 : Nat := 20
abbrev f_frag_fits : Nat := 21
abbrev f_slices_EqualFunc_Item : Nat := 22
abbrev f_frag_same : Nat := 23
abbrev f_strings_Index : Nat := 24
abbrev f_internal_stringslite_Cut : Nat := 31
abbrev f_strings_genSplit : Nat := 33
abbrev f_strings_Builder_copyCheck : Nat := 34
abbrev f_slices_IndexFunc_Item : Nat := 36
abbrev f_frag_Name : Nat := 37
abbrev f_frag_within : Nat := 38
abbrev f_slices_ContainsFunc_string : Nat := 39
abbrev f_frag_fits_1 : Nat := 40
abbrev f_slices_Equal_string : Nat := 41
abbrev f_internal_stringslite_Index : Nat := 42
abbrev f_strings_Count : Nat := 63
abbrev f_strings_Trim : Nat := 66
abbrev f_slices_IndexFunc_string : Nat := 67
abbrev f_internal_stringslite_IndexByte : Nat := 68
abbrev f_strings_makeASCIISet : Nat := 112
abbrev f_strings_trimLeftASCII : Nat := 113
abbrev f_strings_trimRightASCII : Nat := 114
abbrev f_strings_asciiSet_contains : Nat := 158
abbrev t_Item : Nat := 24
abbrev t_string : Nat := 9
abbrev t_strings_Builder : Nat := 48
abbrev t_strings_asciiSet : Nat := 172
abbrev t_value_room : Nat := 274
theorem n_foremanlaw30_PlayerItems : E.fn f_foremanlaw30_PlayerItems = some a3 := by kernel_rfl
theorem n_foremanlaw09_Few : E.fn f_foremanlaw09_Few = some a4 := by kernel_rfl
theorem n_player_Item : E.fn f_player_Item = some a6 := by kernel_rfl
theorem n_player_Say : E.fn f_player_Say = some a7 := by kernel_rfl
theorem n_frag_Right : E.fn f_frag_Right = some a8 := by kernel_rfl
theorem n_frag_Same : E.fn f_frag_Same = some a9 := by kernel_rfl
theorem n_strings_Contains : E.fn f_strings_Contains = some a10 := by kernel_rfl
theorem n_strings_Cut : E.fn f_strings_Cut = some a13 := by kernel_rfl
theorem n_player_number : E.fn f_player_number = some a14 := by kernel_rfl
theorem n_strings_Split : E.fn f_strings_Split = some a15 := by kernel_rfl
theorem n_strings_Builder_WriteString : E.fn f_strings_Builder_WriteString = some a16 := by kernel_rfl
theorem n_strings_Builder_String : E.fn f_strings_Builder_String = some a18 := by kernel_rfl
theorem n_slices_ContainsFunc_Item : E.fn f_slices_ContainsFunc_Item = some a19 := by kernel_rfl
theorem n_frag_Right_1 : E.fn f_frag_Right_1 = some a20 := by kernel_rfl
theorem n_frag_fits : E.fn f_frag_fits = some a21 := by kernel_rfl
theorem n_slices_EqualFunc_Item : E.fn f_slices_EqualFunc_Item = some a22 := by kernel_rfl
theorem n_frag_same : E.fn f_frag_same = some a23 := by kernel_rfl
theorem n_strings_Index : E.fn f_strings_Index = some a24 := by kernel_rfl
theorem n_internal_stringslite_Cut : E.fn f_internal_stringslite_Cut = some a31 := by kernel_rfl
theorem n_strings_genSplit : E.fn f_strings_genSplit = some a33 := by kernel_rfl
theorem n_strings_Builder_copyCheck : E.fn f_strings_Builder_copyCheck = some a34 := by kernel_rfl
theorem n_slices_IndexFunc_Item : E.fn f_slices_IndexFunc_Item = some a36 := by kernel_rfl
theorem n_frag_Name : E.fn f_frag_Name = some a37 := by kernel_rfl
theorem n_frag_within : E.fn f_frag_within = some a38 := by kernel_rfl
theorem n_slices_ContainsFunc_string : E.fn f_slices_ContainsFunc_string = some a39 := by kernel_rfl
theorem n_frag_fits_1 : E.fn f_frag_fits_1 = some a40 := by kernel_rfl
theorem n_slices_Equal_string : E.fn f_slices_Equal_string = some a41 := by kernel_rfl
theorem n_internal_stringslite_Index : E.fn f_internal_stringslite_Index = some a42 := by kernel_rfl
theorem n_strings_Count : E.fn f_strings_Count = some a63 := by kernel_rfl
theorem n_strings_Trim : E.fn f_strings_Trim = some a66 := by kernel_rfl
theorem n_slices_IndexFunc_string : E.fn f_slices_IndexFunc_string = some a67 := by kernel_rfl
theorem n_internal_stringslite_IndexByte : E.fn f_internal_stringslite_IndexByte = some a68 := by kernel_rfl
theorem n_strings_trimLeftASCII : E.fn f_strings_trimLeftASCII = some a113 := by kernel_rfl
theorem n_strings_trimRightASCII : E.fn f_strings_trimRightASCII = some a114 := by kernel_rfl
theorem n_strings_asciiSet_contains : E.fn f_strings_asciiSet_contains = some a158 := by kernel_rfl
end
end Go.Proofs.YtehffjjfomapnaaGreatDoor
