import Derived.Test.YtficgmeakeiacaaVa5
set_option linter.all false
open Go Go.Ve Go.Proofs
namespace Go.Proofs.Ytficgmeakeiacaa
set_option maxRecDepth 100000
abbrev n_warrantorlaw05_StrsPuts : Nat := 3
abbrev n_warrantorlaw05_StrsOf : Nat := 4
abbrev n_warrantorlaw05_StrsJoins : Nat := 5
abbrev n_warrantorref05_Large : Nat := 6
abbrev n_warrantorlaw05_lives : Nat := 7
abbrev n_strs_Put : Nat := 8
abbrev n_warrantorref05_Check : Nat := 9
abbrev n_strs_Check : Nat := 10
abbrev n_strs_Get : Nat := 11
abbrev n_warrantorref05_Put : Nat := 12
abbrev n_warrantorref05_Same : Nat := 13
abbrev n_strs_Of : Nat := 14
abbrev n_strs_Find : Nat := 15
abbrev n_warrantorref05_Find : Nat := 16
abbrev n_warrantorref05_Of : Nat := 17
abbrev n_strs_Same : Nat := 18
abbrev n_cur_New : Nat := 19
abbrev n_cur_Pen_U : Nat := 20
abbrev n_strs_shares : Nat := 21
abbrev n_cur_Pen_Text : Nat := 22
abbrev n_cur_Pen_Bytes : Nat := 23
abbrev n_strs_Check_c1 : Nat := 24
abbrev n_slices_ContainsFunc_string_string : Nat := 25
abbrev n_cur_From : Nat := 26
abbrev n_strs_taker_count : Nat := 27
abbrev n_cur_Reader_Count : Nat := 28
abbrev n_strs_taker_text : Nat := 29
abbrev n_cur_Reader_End : Nat := 30
abbrev n_cur_Reader_Err : Nat := 31
abbrev n_cur_Reader_At : Nat := 32
abbrev n_warrantorref02_Num : Nat := 33
abbrev n_warrantorref05_shares : Nat := 34
abbrev n_warrantorref02_Text : Nat := 35
abbrev n_slices_BinarySearch_string_string : Nat := 39
abbrev n_slices_Equal_string_string : Nat := 40
abbrev n_cur_Pen_put : Nat := 41
abbrev n_leb_Put : Nat := 42
abbrev n_slices_Clone_byte_byte : Nat := 43
abbrev n_slices_IndexFunc_string_string : Nat := 44
abbrev n_cur_ask_int : Nat := 45
abbrev n_cur_Reader_Count_c1 : Nat := 46
abbrev n_cur_Reader_upto : Nat := 47
abbrev n_cur_Reader_Text : Nat := 48
abbrev n_strings_Clone : Nat := 49
abbrev n_cur_Reader_Left : Nat := 50
abbrev n_cur_Reader_Fail : Nat := 51
abbrev n_warrantorref01_Put : Nat := 52
abbrev n_cmp_Less_string : Nat := 55
abbrev n_slices_isNaN_string : Nat := 56
abbrev n_cur_ask_int__c1 : Nat := 57
abbrev n_cur_Reader_number : Nat := 58
abbrev n_cur_ask_string : Nat := 59
abbrev n_cur_Reader_Text_c1 : Nat := 60
abbrev n_cur_Reader_take : Nat := 61
abbrev n_stringslite_Clone : Nat := 62
abbrev n_cmp_isNaN_string : Nat := 73
abbrev n_leb_Get : Nat := 74
abbrev n_cur_ask_string__c1 : Nat := 75
abbrev t_cur_broken : Nat := 79
end Go.Proofs.Ytficgmeakeiacaa
