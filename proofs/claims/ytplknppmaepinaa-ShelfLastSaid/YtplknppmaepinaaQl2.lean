/- Texts joined and shortened (wip/tools/shrink.py): Fx12. -/
import Derived.Test.YtplknppmaepinaaQl1
namespace Go.Proofs.Ytplknppmaepinaa.F
open Go.RowKit Go.Proofs.YtplknppmaepinaaW.PrintWords Go.Proofs.YtplknppmaepinaaW.PrintLast Go.Proofs.YtplknppmaepinaaW.PrintMore
attribute [local go_sem] max2_int min2_int max_two min_two max_three min_three max_four min_four   -- for this text's walks alone
set_option linter.unusedVariables false
set_option linter.unusedSimpArgs false

attribute [local go_sem high] eqA102
-- NOT PRINTED: function 73 (slices_partitionOrdered_string)

-- NOT PRINTED: function 57 (slices_pdqsortOrdered_string)

-- NOT PRINTED: function 31 (slices_Sort_string_string)

-- NOT PRINTED: function 32 (shelf_fresh)

-- NOT PRINTED: function 11 (shelf_Shelf_Files)

-- NOT PRINTED: function 12 (dowelref01_Shelf_Files)

-- NOT PRINTED: function 13 (shelf_Shelf_Left)

-- NOT PRINTED: function 14 (dowelref01_Shelf_Left)

-- NOT PRINTED: function 15 (shelf_Shelf_Calls)

-- NOT PRINTED: function 3 (dowellaw01_ShelfMakes)

-- NOT PRINTED: function 38 (shelf_Shelf_ask)

/-! ### shelf_told: function 40 -/

-- NOT PRINTED: function 18 (shelf_Shelf_Write)

-- NOT PRINTED: function 19 (shelf_Shelf_Remove)

-- NOT PRINTED: function 20 (shelf_Shelf_Read)

-- NOT PRINTED: function 76 (reflectlite_TypeOf)

-- NOT PRINTED: function 77 (errors_is)

-- NOT PRINTED: function 59 (errors_Is)

-- NOT PRINTED: function 35 (dowelbook_Number)

-- NOT PRINTED: function 16 (dowellaw01_works)

-- NOT PRINTED: function 4 (dowellaw01_ShelfLast)

/-! ### dowellaw01_total: function 23 -/

-- NOT PRINTED: function 5 (dowellaw01_ShelfRoom)

/-! ### dowellaw01_sameCalls: function 25 -/

/-! ### dowelref01_Shelf_planned: function 60 -/

-- NOT PRINTED: function 61 (dowelref01_Shelf_noted)

-- NOT PRINTED: function 45 (dowelref01_Shelf_Read)

-- NOT PRINTED: function 46 (dowelref01_Shelf_Write)

-- NOT PRINTED: function 47 (dowelref01_Shelf_Remove)

-- NOT PRINTED: function 62 (maps_clone)

-- NOT PRINTED: function 50 (maps_Clone_map_string_byte_string_byte)

-- NOT PRINTED: function 78 (slices_AppendSeq_string_string)

-- NOT PRINTED: function 63 (slices_Collect_string)

-- NOT PRINTED: function 51 (slices_Sorted_string)

-- NOT PRINTED: function 52 (maps_Keys_map_string_byte_string_byte)

-- NOT PRINTED: function 27 (shelf_Shelf_Each)

-- NOT PRINTED: function 48 (dowellaw01_told_walked)

-- NOT PRINTED: function 24 (dowellaw01_told_asked)

-- NOT PRINTED: function 49 (dowelbook_FreeBytes)

-- NOT PRINTED: function 26 (dowellaw01_told_free)

-- NOT PRINTED: function 6 (dowellaw01_ShelfPlays)

-- NOT PRINTED: function 28 (dowellaw01_turn)

-- NOT PRINTED: function 7 (dowellaw01_ShelfLater)

end Go.Proofs.Ytplknppmaepinaa.F
