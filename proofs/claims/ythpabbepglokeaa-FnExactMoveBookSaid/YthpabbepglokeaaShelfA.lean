/- The library's texts that the walks of Delete and Insert lean on; it states nothing itself. -/
import Derived.Laws.CopyOwn
import Derived.Lib.Overlaps
import Derived.Laws.Cover3
