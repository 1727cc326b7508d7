/- The hand-made contracts that need nothing printed. -/
import Derived.Test.YtihaeeldgimdiaaDoorUiH0c
import Derived.Test.YtihaeeldgimdiaaDoorUiH0d
import Derived.Test.YtihaeeldgimdiaaDoorUiH0e
import Derived.Test.YtihaeeldgimdiaaDoorUiBld

